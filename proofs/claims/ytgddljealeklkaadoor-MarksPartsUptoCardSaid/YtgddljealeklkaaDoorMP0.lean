/- Parts of a claim (MP), packed by a program (pack.py) out of the texts that it names. -/
import Derived.Test.YtgddljealeklkaaDoorProg
import Derived.Tactics
import Derived.WalkKit
import Derived.KernelRfl
import Derived.Below
import Derived.Deep.Draws
import Derived.Deep.AppendLies
import Derived.Maps.AppendAt
import Derived.OwnWalk
import Derived.Laws.BytesArg
import Derived.Laws.MakeOwn
import Derived.Laws.OwnMore
import Derived.Deep.OwnRows
import Derived.Lib.ConvBytes
import Derived.Laws.Slices
import Derived.RowKit3
import Derived.Deep.LoopGhost
import Derived.Deep.QuietTactic
import Derived.BigQuiet
import Derived.WideLaws
import Derived.Deep.DeepCutAuto
import Derived.Deep.CutBlock
import Derived.Deep.RegionHeld3
import Derived.Laws.Rows
import Derived.Lib.AppendStr
import Derived.ArgAppend
import Derived.Laws.IdiomCopy
import Derived.RowKit
import Derived.OrdersHeld
import Derived.Laws.BitsLemmas
import Derived.Laws.BitsAllLaws
import Derived.Laws.Bits64b
import Derived.Laws.CopyOwn
import Derived.Laws.Tables
import Derived.Deep.MidRow
import Derived.Lib.BufferWrite
import Derived.StillTailTactics
import Derived.Outline
import Derived.WalkSpells
import Derived.WalkLawsBesides
import Derived.ChangeKeysEq
import Derived.Laws.StructEq
import Derived.Scope
import Derived.RangeFuncBox
import Derived.RangeFuncNested
import Derived.RangeFuncBound
import Derived.RangeFuncCalls
import Derived.RangeFuncLeaves
import Derived.Shelf.Abstract
import Derived.Shelf.RegionOpen
import Derived.OwnWalkIn
import Derived.TacticsInMore
import Derived.LoopNIn
import Derived.LoopIn
import Derived.Sort.CutIn
import Derived.Laws.IdiomStrings
import Derived.OrdersIn
import Derived.Lib.TrailingZeros
import Derived.Shelf.Spec.TrailingZeros
import Derived.Maps.OwnIn
-- Mh
section
namespace Go.Proofs.YtgddljealeklkaaDoorM
open Go Go.RowKit
theorem fieldBits0 (t : Int) (v : Value) (w : World) : (Instr.field 34 (.agg #[.int .i64 t, v]) 0).run Tryd.prog w = .ok (.int .i64 t) w := by
  have h1 : (isAgg 3).run Tryd.prog w = .ok false w := by simp [isAgg, run_underlying Tryd.underlying3]
  simp [Instr.field, run_underlying Tryd.underlying34, asAgg, part, h1]
theorem fieldBits1 (t : Int) (v : Value) (w : World) : (Instr.field 34 (.agg #[.int .i64 t, v]) 1).run Tryd.prog w = .ok v w := by
  have h1 : (isAgg 32).run Tryd.prog w = .ok false w := by simp [isAgg, run_underlying Tryd.underlying32]
  simp [Instr.field, run_underlying Tryd.underlying34, asAgg, part, h1]
end Go.Proofs.YtgddljealeklkaaDoorM
end
-- WWords
section
set_option linter.unusedVariables false
set_option linter.unusedSimpArgs false
namespace Go.Proofs.YtgddljealeklkaaDoorW.PrintWords
open Go.RowKit

/-- A fact that the walk's simp doesn't look into. -/
structure Aside0 (p : Prop) : Prop where mk :: (out : p)
/-- The world is the old one, some orders having been drawn. -/
structure Drawn0 (w w' : World) : Prop where mk :: (out : ∃ n, w' = w.drewN n)
theorem Drawn0.refl (w : World) : Drawn0 w w := ⟨⟨0, rfl⟩⟩
theorem Drawn0.step {w w' : World} (h : Drawn0 w w') (n : Nat) : Drawn0 w (w'.drewN n) := by
  obtain ⟨m, rfl⟩ := h
  exact ⟨⟨m + n, World.drewN_drewN ..⟩⟩
theorem Drawn0.grown {w w' : World} (h : Drawn0 w w') : Grown w w' := by
  obtain ⟨n, rfl⟩ := h
  induction n with
  | zero => exact Grown.refl _
  | succ n ih => rw [← World.drew_drewN]; exact Grown.drew ih
theorem Drawn0.below {w w' : World} (h : Drawn0 w w') : Below w.heap.size w w' := by
  obtain ⟨n, rfl⟩ := h
  induction n with
  | zero => exact Below.refl _ _
  | succ n ih => rw [← World.drew_drewN]; exact ih.drew


def rd (xs : List Int) (i : Int) : Int := xs.getD i.toNat 0
def bt (s : ByteArray) (i : Int) : Int := if h : i.toNat < s.size then ((s[i.toNat]'h).toNat : Int) else 0
theorem bt_at (s : ByteArray) (i : Int) : ∀ h : i.toNat < s.size, ((s[i.toNat]'h).toNat : Int) = bt s i := fun h => by simp [bt, h]
theorem bt_range (s : ByteArray) (i : Int) : 0 ≤ bt s i ∧ bt s i ≤ 255 := by
  unfold bt
  split
  · rename_i h
    have := (s[i.toNat]'h).toNat_lt
    omega
  · omega
def nums (k : IntKind) (xs : List Int) : List Value := xs.map fun x => .int k x
def bools (xs : List Bool) : List Value := xs.map fun x => .bool x
theorem nums_append (k : IntKind) (xs ys : List Int) : nums k (xs ++ ys) = nums k xs ++ nums k ys := by simp [nums]

theorem below_alloc {w W : World} (h : Below w.heap.size w W) (o : Obj) : Below w.heap.size w (W.alloc o) := h.alloc h.size o
theorem below_drew {B : Nat} {w W : World} (h : Below B w W) : Below B w W.drew := ⟨h.os, h.tape, h.output, h.size, h.block⟩
theorem pw_below_drewN {B : Nat} {w W : World} (h : Below B w W) (n : Nat) : Below B w (W.drewN n) := ⟨h.os, h.tape, h.output, h.size, h.block⟩
theorem below_then {B : Nat} {w w1 w2 : World} (h : Below B w w1) (hB : B ≤ w1.heap.size) (k : Below w1.heap.size w1 w2) : Below B w w2 :=
  h.trans ⟨k.os, k.tape, k.output, k.size, fun i hi => k.block i (Nat.lt_of_lt_of_le hi hB)⟩
theorem grown_of_below {w w1 : World} (h : Below w.heap.size w w1) (row : Option Nat) : w.grownBy w1 row := ⟨h.os, h.tape, h.output, h.size, fun i hi _ => h.block i hi⟩
theorem pw_cell_below {w w1 : World} (h : Below w.heap.size w w1) {a : Addr} {v : Value} (hc : w.cell? a = some v) : w1.cell? a = some v := (h.cell (World.block_lt_of_cell? w a hc)).trans hc

def ReadsInt (w : World) (k : IntKind) (A : Option Addr) (n : Nat) (xs : List Int) : Prop :=
  xs.length = n ∧ n ≤ 9223372036854775807 ∧ (0 < n → ∃ ad, A = some ad ∧ ∀ j, j < n → w.cell? (ad.add j) = some (.int k (xs.getD j 0)))
theorem ReadsInt.at_ {w : World} {k : IntKind} {A : Option Addr} {n : Nat} {xs : List Int} (h : ReadsInt w k A n xs) (i : Int) (h0 : 0 ≤ i) (h1 : i < n) : ∃ ad, A = some ad ∧ w.cell? (ad.add i.toNat) = some (.int k (rd xs i)) := by
  obtain ⟨ad, e, hc⟩ := h.2.2 (by omega)
  exact ⟨ad, e, hc _ (by omega)⟩
theorem ReadsInt.below {w w1 : World} {k : IntKind} {A : Option Addr} {n : Nat} {xs : List Int} (h : ReadsInt w k A n xs) (hb : Below w.heap.size w w1) : ReadsInt w1 k A n xs :=
  ⟨h.1, h.2.1, fun hn => by
    obtain ⟨ad, e, hc⟩ := h.2.2 hn
    exact ⟨ad, e, fun j hj => pw_cell_below hb (hc j hj)⟩⟩

theorem own_nil (W : World) (base : Nat) (e : TypeId) (size : Nat) : W.ownsRow base e size (.slice none 0 0) 0 [] := ⟨by simp, .inl ⟨rfl, rfl⟩⟩
theorem own_base {w : World} {base : Nat} {e : TypeId} {size n : Nat} {v : Value} {xs : List Value} (h : w.ownsRow base e size v n xs) (k : Nat) (hk : v.ownBlock = some k) : base ≤ k := by
  rcases h.2 with ⟨rfl, _⟩ | ⟨g, cap, cur, rfl, hb, _⟩
  · simp [Value.ownBlock] at hk
  · have : g = k := by simpa [Value.ownBlock] using hk
    omega
theorem own_lt {w : World} {base : Nat} {e : TypeId} {size n : Nat} {v : Value} {xs : List Value} (h : w.ownsRow base e size v n xs) (k : Nat) (hk : v.ownBlock = some k) : k < w.heap.size := by
  rcases h.2 with ⟨rfl, _⟩ | ⟨g, cap, cur, rfl, hb, hh, _⟩
  · simp [Value.ownBlock] at hk
  · have : g = k := by simpa [Value.ownBlock] using hk
    subst this
    exact (Array.getElem?_eq_some_iff.1 hh).1
theorem pw_own_below {w w1 : World} {base : Nat} {e : TypeId} {size n : Nat} {v : Value} {xs : List Value} (h : w.ownsRow base e size v n xs) (hb : Below w.heap.size w w1) : w1.ownsRow base e size v n xs :=
  h.kept (grown_of_below hb none) (by cases v.ownBlock <;> simp)
/-- What is written is another row: this one lives on. -/
theorem own_other {w w1 : World} {base : Nat} {e : TypeId} {size n : Nat} {v : Value} {xs : List Value} (h : w.ownsRow base e size v n xs) {row : Option Nat} (hg : w.grownBy w1 row) (hne : v.ownBlock = none ∨ v.ownBlock ≠ row) : w1.ownsRow base e size v n xs := h.kept hg hne
/-- The shape of whatever is owned. -/
theorem own_slice {w : World} {base n : Nat} {e : TypeId} {size : Nat} {v : Value} {xs : List Value} (h : w.ownsRow base e size v n xs) : ∃ A c, v = .slice A n c := by
  rcases h.2 with ⟨rfl, rfl⟩ | ⟨g, cap, cur, rfl, _⟩
  · exact ⟨none, 0, rfl⟩
  · exact ⟨_, cap, rfl⟩
theorem own_string {P : Program} {w : World} {base n : Nat} {e' src dst e : TypeId} {v : Value} {xs : List Int} (hs : P.underlying src = some (.slice e)) (he : P.underlying e = some (.int .u8)) (hd : P.underlying dst = some .string)
    (h : w.ownsRow base e' 1 v n (nums .u8 xs)) : (convert src dst v).run P w = .ok (.string (strOfNums xs)) w := by
  have hl : xs.length = n := by have := h.1; simp [nums] at this; exact this
  rcases h.2 with ⟨rfl, rfl⟩ | ⟨g, cap, cur, rfl, _⟩
  · obtain rfl : xs = [] := List.eq_nil_of_length_eq_zero hl
    exact run_convert_bytes_nil w src e hs he 0 0 dst hd
  · refine run_convert_bytes_arg w src e hs he g 0 n cap xs hl (fun i hi => ?_) dst hd
    have hc := h.cells (g := g) rfl i (.int .u8 (xs.getD i 0)) (by simp [nums, List.getElem?_eq_getElem (show i < xs.length by omega), List.getD_eq_getElem?_getD])
    have ha : (⟨g, 0, none⟩ : Addr).add i = ⟨g, 0 + i, none⟩ := by unfold Addr.add; split <;> simp_all
    rwa [ha] at hc

section
variable {P : Program} {ops : Array Oper} {rest : List Oper} {o : Oper} {a : Act} {Q : Exit → Act → World → Prop}

end

section
variable {P : Program}
end
section
variable {P : Program} {ops : Array Oper} {rest : List Oper} {o : Oper} {a : Act} {Q : Exit → Act → World → Prop}
end

/-- 'xs[:k]' and 'xs[k:]' of a slice that is read; the address of the second as_ the walk has it. -/
theorem ReadsInt.take_ {w : World} {k : IntKind} {A : Option Addr} {n : Nat} {xs : List Int} (h : ReadsInt w k A n xs) (i : Nat) (hi : i ≤ n) : ReadsInt w k A i (xs.take i) := by
  refine ⟨by rw [List.length_take, h.1]; omega, by have := h.2.1; omega, fun hp => ?_⟩
  obtain ⟨ad, e, hc⟩ := h.2.2 (by omega)
  refine ⟨ad, e, fun j hj => ?_⟩
  rw [hc j (by omega)]
  simp [List.getD_eq_getElem?_getD, hj]
/-- Where the first answers, the second answers the same. -/
def LeO {α : Type} (a b : Option α) : Prop := ∀ r, a = some r → b = some r
theorem LeO.refl {α : Type} (a : Option α) : LeO a a := fun _ h => h
theorem LeO.none {α : Type} (b : Option α) : LeO Option.none b := fun _ h => by cases h
theorem LeO.trans {α : Type} {a b c : Option α} (h : LeO a b) (k : LeO b c) : LeO a c := fun r hr => k r (h r hr)
theorem LeO.ite {α : Type} {c : Prop} [Decidable c] {a a' b b' : Option α} (h : LeO a a') (k : LeO b b') : LeO (if c then a else b) (if c then a' else b') := by
  split
  · exact h
  · exact k
theorem LeO.bind {α β : Type} {a a' : Option α} {f f' : α → Option β} (h : LeO a a') (k : ∀ x, LeO (f x) (f' x)) : LeO (a.bind f) (a'.bind f') := by
  intro r hr
  obtain ⟨x, hx, hf⟩ := Option.bind_eq_some_iff.1 hr
  exact Option.bind_eq_some_iff.2 ⟨x, h x hx, k x r hf⟩
theorem LeO.map {α β : Type} {a a' : Option α} (f : α → β) (h : LeO a a') : LeO (a.map f) (a'.map f) := by
  intro r hr
  obtain ⟨x, hx, hf⟩ := Option.map_eq_some_iff.1 hr
  exact Option.map_eq_some_iff.2 ⟨x, h x hx, hf⟩
theorem more_rounds {α : Type} {g : Nat → Option α} (h : ∀ k, LeO (g k) (g (k + 1))) (k : Nat) : ∀ j, LeO (g k) (g (k + j))
  | 0 => LeO.refl _
  | j + 1 => (more_rounds h k j).trans (h (k + j))
theorem at_rounds {α : Type} {g : Nat → Option α} (h : ∀ k, LeO (g k) (g (k + 1))) {k k' : Nat} (hk : k ≤ k') {r : α} (hr : g k = some r) : g k' = some r := by
  have := more_rounds h k (k' - k) r hr
  rwa [Nat.add_sub_cancel' hk] at this
def Reps {α : Type} (R : α → List Value → Prop) (size : Nat) (ps : List α) (cs : List Value) : Prop :=
  cs.length = ps.length * size ∧ ∀ j p, ps[j]? = some p → R p ((cs.drop (j * size)).take size)
theorem Reps.none {α : Type} (R : α → List Value → Prop) (size : Nat) : Reps R size [] [] := ⟨by simp, fun j p h => by simp at h⟩
theorem Reps.snoc {α : Type} {R : α → List Value → Prop} {size : Nat} {ps : List α} {cs c : List Value} {p : α} (h : Reps R size ps cs) (hp : R p c) (hc : c.length = size) : Reps R size (ps ++ [p]) (cs ++ c) := by
  refine ⟨by rw [List.length_append, h.1, hc, List.length_append, List.length_singleton, Nat.add_mul, Nat.one_mul], fun j q hq => ?_⟩
  rcases Nat.lt_or_ge j ps.length with hj | hj
  · rw [List.getElem?_append_left hj] at hq
    have h1 : j * size + size ≤ cs.length := by rw [h.1, ← Nat.succ_mul]; exact Nat.mul_le_mul_right _ hj
    have h2 := h.2 j q hq
    rw [List.drop_append_of_le_length (by omega), List.take_append_of_le_length (by rw [List.length_drop]; omega)]
    exact h2
  · have hj' : j = ps.length := by
      have := (List.getElem?_eq_some_iff.1 hq).1
      rw [List.length_append, List.length_singleton] at this
      omega
    subst hj'
    have hq' : p = q := by simpa using hq
    subst hq'
    rw [← h.1, List.drop_left, ← hc, List.take_length]
    exact hp
theorem Reps.imp_ {α : Type} {R R' : α → List Value → Prop} {size : Nat} {ps : List α} {cs : List Value} (h : Reps R size ps cs) (hR : ∀ p c, R p c → R' p c) : Reps R' size ps cs := ⟨h.1, fun j p hj => hR _ _ (h.2 j p hj)⟩

def ReadsRow {α : Type} (R : α → List Value → Prop) (size : Nat) (w : World) (A : Option Addr) (n : Nat) (ps : List α) : Prop :=
  ps.length = n ∧ n ≤ 9223372036854775807 ∧ (0 < n → ∃ ad, A = some ad ∧ ∀ j p, ps[j]? = some p → ∃ c, c.length = size ∧ R p c ∧ ∀ i u, c[i]? = some u → w.cell? (ad.add (j * size + i)) = some u)
theorem ReadsRow.get_ {α : Type} {R : α → List Value → Prop} {size : Nat} {w : World} {A : Option Addr} {n : Nat} {ps : List α} (h : ReadsRow R size w A n ps) (d : α) (i : Int) (h0 : 0 ≤ i) (h1 : i < n) :
    ∃ ad c, A = some ad ∧ c.length = size ∧ R (ps.getD i.toNat d) c ∧ ∀ j u, c[j]? = some u → w.cell? (ad.add (i.toNat * size + j)) = some u := by
  obtain ⟨ad, e, hc⟩ := h.2.2 (by omega)
  have hl : i.toNat < ps.length := by have := h.1; omega
  obtain ⟨c, hs, hr, hcell⟩ := hc i.toNat _ (List.getElem?_eq_getElem hl)
  refine ⟨ad, c, e, hs, ?_, hcell⟩
  rw [List.getD_eq_getElem?_getD, List.getElem?_eq_getElem hl]
  exact hr
theorem ReadsRow.imp_ {α : Type} {R R' : α → List Value → Prop} {size : Nat} {w w1 : World} {A : Option Addr} {n : Nat} {ps : List α} (h : ReadsRow R size w A n ps) (hb : Below w.heap.size w w1) (hR : ∀ p c, R p c → R' p c) : ReadsRow R' size w1 A n ps :=
  ⟨h.1, h.2.1, fun hn => by
    obtain ⟨ad, e, hc⟩ := h.2.2 hn
    refine ⟨ad, e, fun j p hj => ?_⟩
    obtain ⟨c, hs, hr, hcell⟩ := hc j p hj
    exact ⟨c, hs, hR _ _ hr, fun i u hu => pw_cell_below hb (hcell i u hu)⟩⟩
theorem own_reads_row {α : Type} {R : α → List Value → Prop} {w : World} {base n size : Nat} {e : TypeId} {v : Value} {ps : List α} {cs : List Value} (h : w.ownsRow base e size v n cs) (hR : Reps R size ps cs) (hn : ps.length = n) :
    ∃ A c, v = .slice A n c ∧ ReadsRow R size w A n ps := by
  rcases Nat.eq_zero_or_pos n with h0 | h0
  · rcases h.2 with ⟨rfl, rfl⟩ | ⟨g, cap, cur, rfl, _⟩
    · exact ⟨none, 0, rfl, hn, by omega, fun hp => absurd hp (by omega)⟩
    · exact ⟨_, cap, rfl, hn, by omega, fun hp => absurd hp (by omega)⟩
  · obtain ⟨g, cap, rfl, _, _⟩ := h.form h0
    have hm : n ≤ 9223372036854775807 := by
      rcases h.2 with ⟨_, h1⟩ | ⟨g', cap', cur, he, _, _, h1, h2, _⟩
      · omega
      · simp only [maxLen] at h2
        omega
    refine ⟨_, cap, rfl, hn, hm, fun _ => ⟨_, rfl, fun j p hj => ⟨(cs.drop (j * size)).take size, ?_, hR.2 j p hj, fun i u hu => ?_⟩⟩⟩
    · have hjl := (List.getElem?_eq_some_iff.1 hj).1
      have h1 : j * size + size ≤ cs.length := by rw [hR.1, ← Nat.succ_mul]; exact Nat.mul_le_mul_right _ hjl
      rw [List.length_take, List.length_drop]
      omega
    · refine h.cells (g := g) rfl _ u ?_
      rw [List.getElem?_take] at hu
      split at hu
      · rw [List.getElem?_drop] at hu
        exact hu
      · cases hu
/-- A field's address as_ the walk spells it. -/
theorem add_field (ad : Addr) (m j : Nat) (hj : 0 < j) : ad.add (m + j) = ⟨(ad.add m).block, (ad.add m).off + j, none⟩ := by
  unfold Addr.add
  by_cases hm : m = 0
  · subst hm
    simp [Nat.ne_of_gt hj]
  · simp [hm, Nat.add_assoc]

section
variable {P : Program} {ops : Array Oper} {rest : List Oper} {o : Oper} {a : Act} {Q : Exit → Act → World → Prop}
/-- append(v, x), x of several cells; behind 'at_builtin'; the goal's world is 'W.alloc' of the variadic's box. -/
theorem print_append_cells {w0 W : World} (base : Nat) (hgd : o.guard = none) (s x : Operand) (t e : TypeId) (z : Value) (size bytes : Nat)
    (ho : o.op = .call { callee := .builtin .append, args := #[s, x], argTypes := #[t, t] })
    (ht : P.underlying t = some (.slice e)) (hinfo : (P.info? e).map (fun i => (i.zero, i.size, i.bytes)) = some (some z, size, bytes)) (hz : z.cells.size = size) (hs0 : 0 < size) (hb0 : 0 < bytes)
    (v : Value) (n : Nat) (xs ys : List Value) (hs : a.eval s = v) (hx : a.eval x = .slice (some ⟨W.heap.size, 0, none⟩) 1 1) (hys : ys.length = size) (h1 : ∀ u ∈ ys, u.oneCell' = true)
    (HO : W.ownsRow base e size v n xs) (HB : Below base w0 W) (hbase : base ≤ W.heap.size) (hl : (n + 1) * bytes ≤ 140737488355328)
    (h : ∀ v1 w1, w1.ownsRow base e size v1 (n + 1) (xs ++ ys) → Below base w0 w1 → W.grownBy w1 v.ownBlock → (v1.ownBlock = v.ownBlock ∨ ∃ b, v1.ownBlock = some b ∧ W.heap.size ≤ b) → wpList P ops Q rest (a.put o.dst v1) w1) :
    wpList P ops Q (o :: rest) a (W.alloc (.cells ys.toArray e)) := by
  obtain ⟨i0, hi, hzz⟩ := Option.map_eq_some_iff.1 hinfo
  simp only [Prod.mk.injEq] at hzz
  obtain ⟨hz0, hz1, hz2⟩ := hzz
  have hlen : n + 1 ≤ 140737488355328 := Nat.le_trans (Nat.le_mul_of_pos_right _ hb0) hl
  refine wpList_append_own_at (W.alloc (.cells ys.toArray e)) hgd s x t ho base e i0 z size bytes ht hi hz0 hz1 hz2 hz hs0 v n xs hs (HO.alloc _) ⟨W.heap.size, 0, none⟩ 1 1 ys hx (by rw [hys]; simp)
    (by simpa using World.news_of_block (cs := ys.toArray) (t := e) (fr := (0, 0)) (heap_alloc_new W (.cells ys.toArray e))) h1 (by simp only [maxLen]; omega) hl (by simp; omega) ?_
  intro v1 w1 hown hg _ hat
  refine h v1 w1 hown ((HB.alloc hbase _).grown hg (by simp; omega) (own_base HO)) (World.grownBy.trans (World.grownBy_alloc W _ _) hg) ?_
  rcases hat with hat | hat
  · exact .inl hat
  · exact .inr ⟨_, hat, by simp⟩
end

theorem own_ne {w : World} {base : Nat} {e t : TypeId} {size n g : Nat} {v : Value} {xs : List Value} {cs : Array Value} (h : w.ownsRow base e size v n xs) (hg : w.heap[g]? = some (.cells cs t (0, 0))) (hne : e ≠ t) : some g ≠ v.ownBlock := by
  rcases h.2 with ⟨rfl, _⟩ | ⟨g', cap, cur, rfl, _, hh, _⟩
  · simp [Value.ownBlock]
  · intro he
    have : g = g' := by simpa [Value.ownBlock] using he
    subst this
    rw [hg] at hh
    injection hh with hh
    injection hh with _ ht
    exact hne ht.symm
theorem blk_set {w : World} {g : Nat} {t : TypeId} {cs : Array Value} (h : w.heap[g]? = some (.cells cs t (0, 0))) (i : Nat) (u : Value) : (w.setCell ⟨g, i, none⟩ u).heap[g]? = some (.cells (cs.setIfInBounds i u) t (0, 0)) := by
  simp [World.setCell, Array.getElem?_modify, h]
theorem blk_far {w : World} {g : Nat} {t : TypeId} {cs : Array Value} (h : w.heap[g]? = some (.cells cs t (0, 0))) {p : Addr} (hp : g ≠ p.block) (u : Value) : (w.setCell p u).heap[g]? = some (.cells cs t (0, 0)) := (Below.heap_setCell w p u g hp).trans h
theorem blk_lt {w : World} {g : Nat} {o : Obj} (h : w.heap[g]? = some o) : g < w.heap.size := (Array.getElem?_eq_some_iff.1 h).1
theorem blk_cell {w : World} {g : Nat} {t : TypeId} {cs : Array Value} (h : w.heap[g]? = some (.cells cs t (0, 0))) (i : Nat) : w.cell? ⟨g, i, none⟩ = cs[i]? := cell_of_row w g i cs t (0, 0) h
theorem blk_frozen {w : World} {g : Nat} {t : TypeId} {cs : Array Value} (h : w.heap[g]? = some (.cells cs t (0, 0))) (i : Nat) : w.frozen? ⟨g, i, none⟩ = false := by simp [World.frozen?, h]
theorem blk_grown {w w1 : World} {g : Nat} {o : Obj} {row : Option Nat} (h : w.heap[g]? = some o) (hg : w.grownBy w1 row) (hne : some g ≠ row) : w1.heap[g]? = some o := (hg.block g (blk_lt h) hne).trans h
def KeepBut (w w' : World) (g : Nat) (row : Option Nat) : Prop := w.heap.size ≤ w'.heap.size ∧ ∀ i, i < w.heap.size → i ≠ g → some i ≠ row → w'.heap[i]? = w.heap[i]?
theorem KeepBut.refl (w : World) (g : Nat) (row : Option Nat) : KeepBut w w g row := ⟨Nat.le_refl _, fun _ _ _ _ => rfl⟩
theorem KeepBut.of_below {w w1 : World} (h : Below w.heap.size w w1) (g : Nat) (row : Option Nat) : KeepBut w w1 g row := ⟨h.size, fun i hi _ _ => h.block i hi⟩
theorem KeepBut.trans {w w1 w2 : World} {g : Nat} {row row1 : Option Nat} (h : KeepBut w w1 g row) (k : KeepBut w1 w2 g row1) (hr : row1 = row ∨ ∃ b, row1 = some b ∧ w.heap.size ≤ b) : KeepBut w w2 g row :=
  ⟨Nat.le_trans h.1 k.1, fun i hi hg hn => by
    refine (k.2 i (Nat.lt_of_lt_of_le hi h.1) hg ?_).trans (h.2 i hi hg hn)
    rcases hr with rfl | ⟨b, rfl, hb⟩
    · exact hn
    · intro e
      injection e with e
      omega⟩
/-- Another block, another row: they live on. -/
theorem KeepBut.blk {w w1 : World} {g g' : Nat} {row : Option Nat} {o : Obj} (h : KeepBut w w1 g row) (hb : w.heap[g']? = some o) (hg : g' ≠ g) (hr : some g' ≠ row) : w1.heap[g']? = some o := (h.2 g' (blk_lt hb) hg hr).trans hb
theorem KeepBut.own {w w1 : World} {g : Nat} {row : Option Nat} {base : Nat} {e : TypeId} {size n : Nat} {v : Value} {xs : List Value} (h : KeepBut w w1 g row) (ho : w.ownsRow base e size v n xs) (hg : v.ownBlock ≠ some g) (hr : v.ownBlock = none ∨ v.ownBlock ≠ row) : w1.ownsRow base e size v n xs := by
  obtain ⟨h1, h2⟩ := ho
  refine ⟨h1, ?_⟩
  rcases h2 with h2 | ⟨b, cap, cur, rfl, hb, hh, r⟩
  · exact .inl h2
  · refine .inr ⟨b, cap, cur, rfl, hb, h.blk hh ?_ ?_, r⟩
    · intro e
      exact hg (by rw [← e]; rfl)
    · rcases hr with hr | hr
      · simp [Value.ownBlock] at hr
      · exact hr
def Ev {α : Type} (g : Nat → Option α) (r : α) : Prop := ∃ K, ∀ k, K ≤ k → g k = some r
theorem Ev.of {α : Type} {g : Nat → Option α} {r : α} (hg : ∀ k, LeO (g k) (g (k + 1))) {k : Nat} (h : g k = some r) : Ev g r := ⟨k, fun _ hk => at_rounds hg hk h⟩
theorem Ev.now {α : Type} (r : α) : Ev (fun _ => some r) r := ⟨0, fun _ _ => rfl⟩
theorem Ev.rounds {α : Type} {g : Nat → Option α} {r : α} (h : Ev g r) : ∃ k, g k = some r := by
  obtain ⟨K, h⟩ := h
  exact ⟨K, h K (Nat.le_refl _)⟩
theorem Ev.bind {α β : Type} {g : Nat → Option α} {f : Nat → α → Option β} {a : α} {r : β} (h : Ev g a) (k : Ev (fun n => f n a) r) : Ev (fun n => (g n).bind (f n)) r := by
  obtain ⟨K, h⟩ := h
  obtain ⟨K', k⟩ := k
  refine ⟨max K K', fun n hn => ?_⟩
  have h1 := h n (by omega)
  have h2 := k n (by omega)
  simp only [h1, Option.bind_some]
  exact h2
/-- One round of a loop. -/
theorem Ev.step {α : Type} {g f : Nat → Option α} {r : α} (h : ∀ k, g (k + 1) = f k) (k : Ev f r) : Ev g r := by
  obtain ⟨K, k⟩ := k
  refine ⟨K + 1, fun n hn => ?_⟩
  obtain ⟨m, rfl⟩ : ∃ m, n = m + 1 := ⟨n - 1, by omega⟩
  rw [h]
  exact k m (by omega)
theorem Ev.congr {α : Type} {g f : Nat → Option α} {r : α} (h : ∀ k, g k = f k) (k : Ev f r) : Ev g r := by
  obtain ⟨K, k⟩ := k
  exact ⟨K, fun n hn => (h n).trans (k n hn)⟩
section
variable {P : Program} {ops : Array Oper} {o : Oper} {a : Act} {Q : Exit → Act → World → Prop} {K : Act → World → Prop}
end
theorem own_weaken {w : World} {base base' : Nat} {e : TypeId} {size n : Nat} {v : Value} {xs : List Value} (h : w.ownsRow base e size v n xs) (hb : base' ≤ base) : w.ownsRow base' e size v n xs := by
  obtain ⟨h1, h2⟩ := h
  refine ⟨h1, ?_⟩
  rcases h2 with h2 | ⟨g, cap, cur, rfl, hg, r⟩
  · exact .inl h2
  · exact .inr ⟨g, cap, cur, rfl, Nat.le_trans hb hg, r⟩
section
variable {α : Type} {enc : α → Value} {d : α}
def encs (enc : α → Value) (xs : List α) : List Value := xs.map enc
def rdOf (d : α) (xs : List α) (i : Int) : α := xs.getD i.toNat d
theorem encs_length (xs : List α) : (encs enc xs).length = xs.length := by simp [encs]
def ReadsOf (enc : α → Value) (d : α) (w : World) (A : Option Addr) (n : Nat) (xs : List α) : Prop :=
  xs.length = n ∧ n ≤ 9223372036854775807 ∧ (0 < n → ∃ ad, A = some ad ∧ ∀ j, j < n → w.cell? (ad.add j) = some (enc (xs.getD j d)))
theorem ReadsOf.at_ {w : World} {A : Option Addr} {n : Nat} {xs : List α} (h : ReadsOf enc d w A n xs) (i : Int) (h0 : 0 ≤ i) (h1 : i < n) : ∃ ad, A = some ad ∧ w.cell? (ad.add i.toNat) = some (enc (rdOf d xs i)) := by
  obtain ⟨ad, e, hc⟩ := h.2.2 (by omega)
  exact ⟨ad, e, hc _ (by omega)⟩
theorem ReadsOf.below {w w1 : World} {A : Option Addr} {n : Nat} {xs : List α} (h : ReadsOf enc d w A n xs) (hb : Below w.heap.size w w1) : ReadsOf enc d w1 A n xs :=
  ⟨h.1, h.2.1, fun hn => by
    obtain ⟨ad, e, hc⟩ := h.2.2 hn
    exact ⟨ad, e, fun j hj => pw_cell_below hb (hc j hj)⟩⟩
theorem ReadsOf.take_ {w : World} {A : Option Addr} {n : Nat} {xs : List α} (h : ReadsOf enc d w A n xs) (i : Nat) (hi : i ≤ n) : ReadsOf enc d w A i (xs.take i) := by
  refine ⟨by rw [List.length_take, h.1]; omega, by have := h.2.1; omega, fun hp => ?_⟩
  obtain ⟨ad, e, hc⟩ := h.2.2 (by omega)
  refine ⟨ad, e, fun j hj => ?_⟩
  rw [hc j (by omega)]
  simp [List.getD_eq_getElem?_getD, hj]
end
section
variable {α : Type} {P : Program} {ops : Array Oper} {rest : List Oper} {o : Oper} {a : Act} {Q : Exit → Act → World → Prop}
end

theorem blk_alloc {w : World} {g : Nat} {o : Obj} (h : w.heap[g]? = some o) (o' : Obj) : (w.alloc o').heap[g]? = some o := (Below.heap_alloc w o' g (blk_lt h)).trans h
theorem blk_drew {w : World} {g : Nat} {o : Obj} (h : w.heap[g]? = some o) : w.drew.heap[g]? = some o := h
theorem blk_drewN {w : World} {g : Nat} {o : Obj} (h : w.heap[g]? = some o) (n : Nat) : (w.drewN n).heap[g]? = some o := h
theorem blk_below {w w1 : World} {g : Nat} {o : Obj} (h : w.heap[g]? = some o) (hb : Below w.heap.size w w1) : w1.heap[g]? = some o := (hb.block g (blk_lt h)).trans h
theorem blk_new (w : World) (o : Obj) : (w.alloc o).heap[w.heap.size]? = some o := heap_alloc_new w o
section
variable {P : Program}
end
theorem own_le {w : World} {base n m c size : Nat} {e : TypeId} {A : Option Addr} {xs : List Value} (h : w.ownsRow base e size (.slice A m c) n xs) : m ≤ c := by
  rcases h.2 with ⟨he, _⟩ | ⟨g, cap, cur, he, _, _, hnc, _⟩
  · injection he with _ h2 h3
    omega
  · injection he with _ h2 h3
    omega
def OwnRow {α : Type} (R : α → List Value → Prop) (e : TypeId) (size : Nat) (w : World) (base : Nat) (v : Value) (ps : List α) : Prop :=
  ∃ inner, w.ownsRow base e size v ps.length inner ∧ Reps R size ps inner
section
variable {α : Type} {R R' : α → List Value → Prop} {e : TypeId} {size : Nat} {w w1 : World} {base : Nat} {v : Value} {ps : List α}
theorem OwnRow.none_ (R : α → List Value → Prop) (e : TypeId) (size : Nat) (w : World) (base : Nat) : OwnRow R e size w base (.slice none 0 0) [] := ⟨[], own_nil _ _ _ _, Reps.none _ _⟩
theorem OwnRow.imp_ (h : OwnRow R e size w base v ps) (hR : ∀ p c, R p c → R' p c) : OwnRow R' e size w base v ps := by
  obtain ⟨inner, ho, hr⟩ := h
  exact ⟨inner, ho, hr.imp_ hR⟩
theorem OwnRow.below (h : OwnRow R e size w base v ps) (hb : Below w.heap.size w w1) : OwnRow R e size w1 base v ps := by
  obtain ⟨inner, ho, hr⟩ := h
  exact ⟨inner, pw_own_below ho hb, hr⟩
theorem OwnRow.other (h : OwnRow R e size w base v ps) {row : Option Nat} (hg : w.grownBy w1 row) (hne : v.ownBlock = none ∨ v.ownBlock ≠ row) : OwnRow R e size w1 base v ps := by
  obtain ⟨inner, ho, hr⟩ := h
  exact ⟨inner, own_other ho hg hne, hr⟩
theorem OwnRow.keep (h : OwnRow R e size w base v ps) {g : Nat} {t : TypeId} {cells : Array Value} (hb : w.heap[g]? = some (.cells cells t (0, 0))) (ht : e ≠ t) (hk : KeepBut w w1 g none) : OwnRow R e size w1 base v ps := by
  obtain ⟨inner, ho, hr⟩ := h
  exact ⟨inner, hk.own ho (Ne.symm (own_ne ho hb ht)) (by cases v.ownBlock <;> simp), hr⟩
theorem OwnRow.reads (h : OwnRow R e size w base v ps) : ∃ A c, v = .slice A ps.length c ∧ ps.length ≤ c ∧ ReadsRow R size w A ps.length ps := by
  obtain ⟨inner, ho, hr⟩ := h
  obtain ⟨A, c, rfl, hrow⟩ := own_reads_row ho hr rfl
  exact ⟨A, c, rfl, own_le ho, hrow⟩
theorem OwnRow.ne_block (h : OwnRow R e size w base v ps) {g : Nat} {t : TypeId} {cells : Array Value} (hb : w.heap[g]? = some (.cells cells t (0, 0))) (ht : e ≠ t) : some g ≠ v.ownBlock := by
  obtain ⟨inner, ho, hr⟩ := h
  exact own_ne ho hb ht
/-- A literal: the elements' cells one behind the other. -/
theorem OwnRow.lit (W : World) (base : Nat) {inner : List Value} (hr : Reps R size ps inner) (hb : base ≤ W.heap.size) (hm : ps.length ≤ 9223372036854775807) :
    OwnRow R e size (W.alloc (.cells inner.toArray e)) base (.slice (some ⟨W.heap.size, 0, none⟩) ps.length ps.length) ps := by
  have h := World.ownsRow_lit (base := base) (e := e) (size := size) W inner.toArray ps.length hb (by simpa [maxLen] using hm) (by simpa using hr.1)
  exact ⟨inner, by simpa using h, hr⟩
end
section
variable {P : Program} {ops : Array Oper} {rest : List Oper} {o : Oper} {a : Act} {Q : Exit → Act → World → Prop} {α : Type} {R : α → List Value → Prop}
/-- append(v, x): x's cells are cs. R is that of the world AHEAD; move it over hg ('OwnRow.imp_'). -/
theorem OwnRow.append {w0 W : World} (base : Nat) (hgd : o.guard = none) (s x : Operand) (t e : TypeId) (z : Value) (size bytes : Nat)
    (ho : o.op = .call { callee := .builtin .append, args := #[s, x], argTypes := #[t, t] })
    (ht : P.underlying t = some (.slice e)) (hinfo : (P.info? e).map (fun i => (i.zero, i.size, i.bytes)) = some (some z, size, bytes)) (hz : z.cells.size = size) (hs0 : 0 < size) (hb0 : 0 < bytes)
    (v : Value) (ps : List α) (p : α) (cs : List Value) (hs : a.eval s = v) (hx : a.eval x = .slice (some ⟨W.heap.size, 0, none⟩) 1 1) (hp : R p cs) (hcs : cs.length = size) (h1 : ∀ u ∈ cs, u.oneCell' = true)
    (HO : OwnRow R e size W base v ps) (HB : Below base w0 W) (hbase : base ≤ W.heap.size) (hl : (ps.length + 1) * bytes ≤ 140737488355328)
    (h : ∀ v1 w1, OwnRow R e size w1 base v1 (ps ++ [p]) → Below base w0 w1 → W.grownBy w1 v.ownBlock → (v1.ownBlock = v.ownBlock ∨ ∃ b, v1.ownBlock = some b ∧ W.heap.size ≤ b) → wpList P ops Q rest (a.put o.dst v1) w1) :
    wpList P ops Q (o :: rest) a (W.alloc (.cells cs.toArray e)) := by
  obtain ⟨inner, hown, hr⟩ := HO
  refine print_append_cells base hgd s x t e z size bytes ho ht hinfo hz hs0 hb0 v ps.length inner cs hs hx hcs h1 hown HB hbase hl ?_
  intro v1 w1 hown1 hb1 hg1 hat1
  exact h v1 w1 ⟨inner ++ cs, by rw [List.length_append, List.length_singleton]; exact hown1, hr.snoc hp hcs⟩ hb1 hg1 hat1
end
section
variable {P : Program} {ops : Array Oper} {o : Oper} {a : Act} {Q : Exit → Act → World → Prop} {K : Act → World → Prop} {α : Type} {R : α → List Value → Prop}
end
section
variable {α : Type} {P : Program}
end

section
variable {P : Program} {ops : Array Oper} {rest : List Oper} {o : Oper} {a : Act} {Q : Exit → Act → World → Prop}
end
/-- ok: which blocks the rows inside may be ('not the row that is being written'). -/
structure Kd (α : Type) where
  sz : Nat
  E : List Nat
  K : World → α → List Value → Prop
  M : World → Nat → (Nat → Prop) → α → List Value → Prop
  K_len : ∀ {w x cs}, K w x cs → cs.length = sz
  K_one : ∀ {w x cs}, K w x cs → ∀ u ∈ cs, u.oneCell' = true
  K_below : ∀ {w w1 : World} {x cs}, Below w.heap.size w w1 → K w x cs → K w1 x cs
  K_of_M : ∀ {w base ok x cs}, M w base ok x cs → K w x cs
  M_mono : ∀ {w base ok ok' x cs}, (∀ k, ok k → ok' k) → M w base ok x cs → M w base ok' x cs
  M_bound : ∀ {w : World} {base ok x cs}, M w base ok x cs → M w base (fun k => ok k ∧ base ≤ k ∧ k < w.heap.size ∧ ∃ q, q ∈ E ∧ ∃ cells, w.heap[k]? = some (.cells cells q (0, 0))) x cs
  M_move : ∀ {w w1 : World} {base ok x cs}, (∀ k, ok k → w1.heap[k]? = w.heap[k]?) → M w base ok x cs → M w1 base ok x cs
  M_lower : ∀ {w base base' ok x cs}, base' ≤ base → M w base ok x cs → M w base' ok x cs

theorem own_move {w w1 : World} {base : Nat} {e : TypeId} {size n : Nat} {v : Value} {xs : List Value} (h : w.ownsRow base e size v n xs) (hm : ∀ k, v.ownBlock = some k → w1.heap[k]? = w.heap[k]?) : w1.ownsRow base e size v n xs := by
  obtain ⟨h1, h2⟩ := h
  refine ⟨h1, ?_⟩
  rcases h2 with h2 | ⟨g, cap, cur, rfl, hg, hh, r⟩
  · exact .inl h2
  · exact .inr ⟨g, cap, cur, rfl, hg, (hm g (by simp [Value.ownBlock])).trans hh, r⟩
theorem own_typed {w : World} {base : Nat} {e : TypeId} {size n : Nat} {v : Value} {xs : List Value} (h : w.ownsRow base e size v n xs) (k : Nat) (hk : v.ownBlock = some k) : ∃ cells, w.heap[k]? = some (.cells cells e (0, 0)) := by
  rcases h.2 with ⟨rfl, _⟩ | ⟨g, cap, cur, rfl, hg, hh, r⟩
  · simp [Value.ownBlock] at hk
  · have : g = k := by simpa [Value.ownBlock] using hk
    subst this
    exact ⟨cur, hh⟩

namespace Kd
/-- A row of elements that is read. -/
def C {α : Type} (d : Kd α) (w : World) (A : Option Addr) (n : Nat) (xs : List α) : Prop := ReadsRow (d.K w) d.sz w A n xs
/-- A row of elements (type e) of the call's own; the elements' rows are not this one. -/
def R {α : Type} (d : Kd α) (e : Nat) (w : World) (base : Nat) (ok : Nat → Prop) (v : Value) (xs : List α) : Prop :=
  (∀ k, v.ownBlock = some k → ok k) ∧ OwnRow (d.M w base (fun k => ok k ∧ some k ≠ v.ownBlock)) e d.sz w base v xs
section
variable {α : Type} {d : Kd α} {e : Nat} {w w1 : World} {base : Nat} {ok ok' : Nat → Prop} {v : Value} {xs : List α}
theorem C_below {A : Option Addr} {n : Nat} (h : d.C w A n xs) (hb : Below w.heap.size w w1) : d.C w1 A n xs := ReadsRow.imp_ h hb (fun _ _ hp => d.K_below hb hp)
theorem R_nil (d : Kd α) (e : Nat) (w : World) (base : Nat) (ok : Nat → Prop) : d.R e w base ok (.slice none 0 0) [] := ⟨fun k hk => by simp [Value.ownBlock] at hk, OwnRow.none_ _ _ _ _ _⟩
theorem R_mono (h : d.R e w base ok v xs) (hok : ∀ k, ok k → ok' k) : d.R e w base ok' v xs := ⟨fun k hk => hok k (h.1 k hk), h.2.imp_ (fun _ _ hp => d.M_mono (fun k hk => ⟨hok k hk.1, hk.2⟩) hp)⟩
theorem R_bound (h : d.R e w base ok v xs) : d.R e w base (fun k => ok k ∧ base ≤ k ∧ k < w.heap.size ∧ ∃ q, q ∈ e :: d.E ∧ ∃ cells, w.heap[k]? = some (.cells cells q (0, 0))) v xs := by
  obtain ⟨h0, inner, ho, hr⟩ := h
  refine ⟨fun k hk => ?_, inner, ho, hr.imp_ (fun _ _ hp => d.M_mono (fun k hk => ?_) (d.M_bound hp))⟩
  · obtain ⟨cells, hc⟩ := own_typed ho k hk
    exact ⟨h0 k hk, own_base ho k hk, own_lt ho k hk, e, List.mem_cons_self, cells, hc⟩
  · obtain ⟨⟨h1, h2⟩, h3, h4, q, hq, hc⟩ := hk
    exact ⟨⟨h1, h3, h4, q, List.mem_cons_of_mem _ hq, hc⟩, h2⟩
theorem R_move (h : d.R e w base ok v xs) (hm : ∀ k, ok k → w1.heap[k]? = w.heap[k]?) : d.R e w1 base ok v xs := by
  obtain ⟨h0, inner, ho, hr⟩ := h
  exact ⟨h0, inner, own_move ho (fun k hk => hm k (h0 k hk)), hr.imp_ (fun _ _ hp => d.M_move (fun k hk => hm k hk.1) hp)⟩
theorem R_lower {base' : Nat} (h : d.R e w base ok v xs) (hb : base' ≤ base) : d.R e w base' ok v xs := by
  obtain ⟨h0, inner, ho, hr⟩ := h
  exact ⟨h0, inner, own_weaken ho hb, hr.imp_ (fun _ _ hp => d.M_lower hb hp)⟩
/-- Any mover: what is ok, and a block of w's, stays. -/
theorem R_step (h : d.R e w base ok v xs) (hm : ∀ k, ok k → k < w.heap.size → w1.heap[k]? = w.heap[k]?) : d.R e w1 base ok v xs :=
  R_mono (R_move (R_bound h) (fun k hk => hm k hk.1 hk.2.2.1)) (fun _ hk => hk.1)
theorem M_step {x : α} {cs : List Value} (h : d.M w base ok x cs) (hm : ∀ k, ok k → k < w.heap.size → w1.heap[k]? = w.heap[k]?) : d.M w1 base ok x cs :=
  d.M_mono (fun _ hk => hk.1) (d.M_move (fun k hk => hm k hk.1 hk.2.2.1) (d.M_bound h))
theorem R_below (h : d.R e w base ok v xs) (hb : Below w.heap.size w w1) : d.R e w1 base ok v xs := R_step h (fun k _ hk => hb.block k hk)
theorem M_below {x : α} {cs : List Value} (h : d.M w base ok x cs) (hb : Below w.heap.size w w1) : d.M w1 base ok x cs := M_step h (fun k _ hk => hb.block k hk)
/-- A store into another block. -/
theorem R_far (h : d.R e w base ok v xs) {p : Addr} (hok : ∀ k, ok k → k ≠ p.block) (u : Value) : d.R e (w.setCell p u) base ok v xs := R_step h (fun k ho _ => Below.heap_setCell w p u k (hok k ho))
/-- By types alone: the rows inside are none of a block of type t. -/
theorem R_types (h : d.R e w base ok v xs) {g t : Nat} {cells : Array Value} (hb : w.heap[g]? = some (.cells cells t (0, 0))) (ht : ∀ q, q ∈ e :: d.E → q ≠ t) : d.R e w base (fun k => ok k ∧ k ≠ g) v xs :=
  R_mono (R_bound h) (fun k hk => ⟨hk.1, by
    obtain ⟨_, _, _, q, hq, cells', hc⟩ := hk
    rintro rfl
    rw [hc] at hb
    injection hb with hb
    injection hb with _ hb
    exact ht q hq hb⟩)
theorem R_reads (h : d.R e w base ok v xs) : ∃ A c, v = .slice A xs.length c ∧ xs.length ≤ c ∧ d.C w A xs.length xs := by
  obtain ⟨A, c, he, hl, hr⟩ := OwnRow.reads h.2
  exact ⟨A, c, he, hl, hr.imp_ (Below.refl _ _) (fun _ _ hp => d.K_of_M hp)⟩
theorem R_slice (h : d.R e w base ok v xs) : ∃ A c, v = .slice A xs.length c := by
  obtain ⟨A, c, he, _⟩ := R_reads h
  exact ⟨A, c, he⟩
theorem R_own (h : d.R e w base ok v xs) : ∃ inner, w.ownsRow base e d.sz v xs.length inner := by
  obtain ⟨_, inner, ho, _⟩ := h
  exact ⟨inner, ho⟩
theorem R_ne (h : d.R e w base ok v xs) {g t : Nat} {cells : Array Value} (hb : w.heap[g]? = some (.cells cells t (0, 0))) (ht : e ≠ t) : some g ≠ v.ownBlock := OwnRow.ne_block h.2 hb ht
end

def scalar {α : Type} (enc : α → Value) (h1 : ∀ x, (enc x).oneCell' = true) : Kd α where
  sz := 1
  E := []
  K := fun _ x cs => cs = [enc x]
  M := fun _ _ _ x cs => cs = [enc x]
  K_len := fun h => by rw [h]; rfl
  K_one := fun h u hu => by
    rw [h] at hu
    rw [List.mem_singleton.1 hu]
    exact h1 _
  K_below := fun _ h => h
  K_of_M := fun h => h
  M_mono := fun _ h => h
  M_bound := fun h => h
  M_move := fun _ h => h
  M_lower := fun _ h => h
def int (k : IntKind) : Kd Int := scalar (Value.int k) (fun _ => rfl)
def bool : Kd Bool := scalar Value.bool (fun _ => rfl)
def string : Kd ByteArray := scalar Value.string (fun _ => rfl)
def slice {α : Type} (e : Nat) (d : Kd α) : Kd (List α) where
  sz := 1
  E := e :: d.E
  K := fun w xs cs => ∃ A c, cs = [.slice A xs.length c] ∧ xs.length ≤ c ∧ d.C w A xs.length xs
  M := fun w base ok xs cs => ∃ v, cs = [v] ∧ d.R e w base ok v xs
  K_len := by
    rintro w x cs ⟨A, c, rfl, _⟩
    rfl
  K_one := by
    rintro w x cs ⟨A, c, rfl, _⟩ u hu
    rw [List.mem_singleton.1 hu]
    rfl
  K_below := by
    rintro w w1 x cs hb ⟨A, c, rfl, hl, hr⟩
    exact ⟨A, c, rfl, hl, C_below hr hb⟩
  K_of_M := by
    rintro w base ok x cs ⟨v, rfl, h⟩
    obtain ⟨A, c, rfl, hl, hr⟩ := R_reads h
    exact ⟨A, c, rfl, hl, hr⟩
  M_mono := by
    rintro w base ok ok' x cs hok ⟨v, rfl, h⟩
    exact ⟨v, rfl, R_mono h hok⟩
  M_bound := by
    rintro w base ok x cs ⟨v, rfl, h⟩
    exact ⟨v, rfl, R_bound h⟩
  M_move := by
    rintro w w1 base ok x cs hm ⟨v, rfl, h⟩
    exact ⟨v, rfl, R_move h hm⟩
  M_lower := by
    rintro w base base' ok x cs hb ⟨v, rfl, h⟩
    exact ⟨v, rfl, R_lower h hb⟩
/-- Two in line. -/
def pair {α β : Type} (a : Kd α) (b : Kd β) : Kd (α × β) where
  sz := a.sz + b.sz
  E := a.E ++ b.E
  K := fun w x cs => ∃ c0 c1, cs = c0 ++ c1 ∧ a.K w x.1 c0 ∧ b.K w x.2 c1
  M := fun w base ok x cs => ∃ c0 c1, cs = c0 ++ c1 ∧ a.M w base ok x.1 c0 ∧ b.M w base ok x.2 c1
  K_len := by
    rintro w x cs ⟨c0, c1, rfl, h0, h1⟩
    rw [List.length_append, a.K_len h0, b.K_len h1]
  K_one := by
    rintro w x cs ⟨c0, c1, rfl, h0, h1⟩ u hu
    rcases List.mem_append.1 hu with hu | hu
    · exact a.K_one h0 u hu
    · exact b.K_one h1 u hu
  K_below := by
    rintro w w1 x cs hb ⟨c0, c1, rfl, h0, h1⟩
    exact ⟨c0, c1, rfl, a.K_below hb h0, b.K_below hb h1⟩
  K_of_M := by
    rintro w base ok x cs ⟨c0, c1, rfl, h0, h1⟩
    exact ⟨c0, c1, rfl, a.K_of_M h0, b.K_of_M h1⟩
  M_mono := by
    rintro w base ok ok' x cs hok ⟨c0, c1, rfl, h0, h1⟩
    exact ⟨c0, c1, rfl, a.M_mono hok h0, b.M_mono hok h1⟩
  M_bound := by
    rintro w base ok x cs ⟨c0, c1, rfl, h0, h1⟩
    refine ⟨c0, c1, rfl, a.M_mono ?_ (a.M_bound h0), b.M_mono ?_ (b.M_bound h1)⟩
    · rintro k ⟨h2, h3, h4, q, hq, hc⟩
      exact ⟨h2, h3, h4, q, List.mem_append_left _ hq, hc⟩
    · rintro k ⟨h2, h3, h4, q, hq, hc⟩
      exact ⟨h2, h3, h4, q, List.mem_append_right _ hq, hc⟩
  M_move := by
    rintro w w1 base ok x cs hm ⟨c0, c1, rfl, h0, h1⟩
    exact ⟨c0, c1, rfl, a.M_move hm h0, b.M_move hm h1⟩
  M_lower := by
    rintro w base base' ok x cs hb ⟨c0, c1, rfl, h0, h1⟩
    exact ⟨c0, c1, rfl, a.M_lower hb h0, b.M_lower hb h1⟩
/-- A Lean structure by its fields. -/
def iso {α β : Type} (d : Kd α) (f : β → α) : Kd β where
  sz := d.sz
  E := d.E
  K := fun w x cs => d.K w (f x) cs
  M := fun w base ok x cs => d.M w base ok (f x) cs
  K_len := d.K_len
  K_one := d.K_one
  K_below := d.K_below
  K_of_M := d.K_of_M
  M_mono := d.M_mono
  M_bound := d.M_bound
  M_move := d.M_move
  M_lower := d.M_lower
/-- Nothing is of this kind: where the nesting's depth is used up. -/
def bot {α : Type} (sz : Nat) (E : List Nat) : Kd α where
  sz := sz
  E := E
  K := fun _ _ _ => False
  M := fun _ _ _ _ _ => False
  K_len := fun h => h.elim
  K_one := fun h => h.elim
  K_below := fun _ h => h
  K_of_M := fun h => h
  M_mono := fun _ h => h
  M_bound := fun h => h
  M_move := fun _ h => h
  M_lower := fun _ h => h
/-- A type nested in itself: nested at most n deep .. -/
def upto {α : Type} (F : Kd α → Kd α) (sz : Nat) (E : List Nat) : Nat → Kd α
  | 0 => bot sz E
  | n + 1 => F (upto F sz E n)
theorem C_get {α : Type} {d : Kd α} {w : World} {A : Option Addr} {n : Nat} {xs : List α} (h : d.C w A n xs) (z : α) (i : Int) (h0 : 0 ≤ i) (h1 : i < n) :
    ∃ ad c, A = some ad ∧ c.length = d.sz ∧ d.K w (xs.getD i.toNat z) c ∧ ∀ j u, c[j]? = some u → w.cell? (ad.add (i.toNat * d.sz + j)) = some u := ReadsRow.get_ h z i h0 h1
/-- What an append leaves: the old elements' rows and the new one's are not the new row's block. -/
theorem R_appended {α : Type} {d : Kd α} {e base : Nat} {ok okp : Nat → Prop} {W w1 : World} {v v1 : Value} {xs : List α} {p : α} {inner cs : List Value} (h0 : ∀ k, v.ownBlock = some k → ok k) (hr : Reps (d.M W base (fun k => ok k ∧ some k ≠ v.ownBlock)) d.sz xs inner) (hp : d.M W base okp p cs) (hokp : ∀ k, okp k → ok k ∧ some k ≠ v.ownBlock) (hfresh : ∀ k, W.heap.size ≤ k → ok k)
    (hown : w1.ownsRow base e d.sz v1 (xs.length + 1) (inner ++ cs)) (hg : W.grownBy w1 v.ownBlock) (hat : v1.ownBlock = v.ownBlock ∨ ∃ b, v1.ownBlock = some b ∧ W.heap.size ≤ b) : d.R e w1 base ok v1 (xs ++ [p]) := by
  have hne : ∀ k, some k ≠ v.ownBlock → k < W.heap.size → some k ≠ v1.ownBlock := by
    intro k hk hlt
    rcases hat with hat | ⟨b, hb, hle⟩
    · rw [hat]; exact hk
    · rw [hb]
      intro he
      injection he with he
      omega
  have step : ∀ {q : α} {c : List Value} {o : Nat → Prop}, d.M W base o q c → (∀ k, o k → ok k ∧ some k ≠ v.ownBlock) → d.M w1 base (fun k => ok k ∧ some k ≠ v1.ownBlock) q c := by
    intro q c o hq ho
    have h1 := d.M_move (w1 := w1) (fun k hk => hg.block k hk.2.2.1 (ho k hk.1).2) (d.M_bound hq)
    exact d.M_mono (fun k hk => ⟨(ho k hk.1).1, hne k (ho k hk.1).2 hk.2.2.1⟩) h1
  refine ⟨fun k hk => ?_, inner ++ cs, by rw [List.length_append, List.length_singleton]; exact hown, ?_⟩
  · rcases hat with hat | ⟨b, hb, hle⟩
    · exact h0 k (hat ▸ hk)
    · rw [hb] at hk
      injection hk with hk
      exact hfresh k (by omega)
  · exact (hr.imp_ (fun _ _ hq => step hq (fun _ hk => hk))).snoc (step hp hokp) (d.K_len (d.K_of_M hp))
section
variable {P : Program} {ops : Array Oper} {rest : List Oper} {o : Oper} {a : Act} {Q : Exit → Act → World → Prop} {α : Type}
/-- append(v, x), behind 'at_builtin'; the goal's world is 'W.alloc' of the variadic's box; x's cells are cs, made (its rows satisfy okp). hfresh: a block that is new at W is ok. -/
theorem R_append (d : Kd α) {w0 W : World} (base : Nat) (hgd : o.guard = none) (s x : Operand) (t e : TypeId) (z : Value) (bytes : Nat)
    (ho : o.op = .call { callee := .builtin .append, args := #[s, x], argTypes := #[t, t] })
    (ht : P.underlying t = some (.slice e)) (hinfo : (P.info? e).map (fun i => (i.zero, i.size, i.bytes)) = some (some z, d.sz, bytes)) (hz : z.cells.size = d.sz) (hs0 : 0 < d.sz) (hb0 : 0 < bytes)
    (v : Value) (xs : List α) (p : α) (cs : List Value) (ok okp : Nat → Prop) (hs : a.eval s = v) (hx : a.eval x = .slice (some ⟨W.heap.size, 0, none⟩) 1 1) (hp : d.M W base okp p cs) (hokp : ∀ k, okp k → ok k ∧ some k ≠ v.ownBlock) (hfresh : ∀ k, W.heap.size ≤ k → ok k)
    (HO : d.R e W base ok v xs) (HB : Below base w0 W) (hbase : base ≤ W.heap.size) (hl : (xs.length + 1) * bytes ≤ 140737488355328)
    (h : ∀ v1 w1, d.R e w1 base ok v1 (xs ++ [p]) → Below base w0 w1 → W.grownBy w1 v.ownBlock → (v1.ownBlock = v.ownBlock ∨ ∃ b, v1.ownBlock = some b ∧ W.heap.size ≤ b) → wpList P ops Q rest (a.put o.dst v1) w1) :
    wpList P ops Q (o :: rest) a (W.alloc (.cells cs.toArray e)) := by
  obtain ⟨h0, inner, hown, hr⟩ := HO
  refine print_append_cells base hgd s x t e z d.sz bytes ho ht hinfo hz hs0 hb0 v xs.length inner cs hs hx (d.K_len (d.K_of_M hp)) (d.K_one (d.K_of_M hp)) hown HB hbase hl ?_
  intro v1 w1 hown1 hb1 hg1 hat1
  exact h v1 w1 (R_appended h0 hr hp hokp hfresh hown1 hg1 hat1) hb1 hg1 hat1
end
section
variable {P : Program} {ops : Array Oper} {o : Oper} {a : Act} {Q : Exit → Act → World → Prop} {Kc : Act → World → Prop} {α : Type}
end
/-- A row of scalars is the elder form. -/
theorem reps_scalar {α : Type} {enc : α → Value} (xs : List α) : Reps (fun (x : α) (cs : List Value) => cs = [enc x]) 1 xs (encs enc xs) := by
  refine ⟨by simp [encs], fun j p hj => ?_⟩
  obtain ⟨hl, hp⟩ := List.getElem?_eq_some_iff.1 hj
  have hl' : j < (encs enc xs).length := by rw [encs_length]; exact hl
  rw [Nat.mul_one, List.drop_eq_getElem_cons hl']
  simp [encs, hp]
theorem R_of_own {α : Type} {enc : α → Value} {h1 : ∀ x, (enc x).oneCell' = true} {e : Nat} {w : World} {base : Nat} {ok : Nat → Prop} {v : Value} {xs : List α} (ho : w.ownsRow base e 1 v xs.length (encs enc xs)) (hok : ∀ k, v.ownBlock = some k → ok k) : (scalar enc h1).R e w base ok v xs := ⟨hok, encs enc xs, ho, reps_scalar xs⟩
theorem own_of_R {α : Type} {enc : α → Value} {h1 : ∀ x, (enc x).oneCell' = true} {e : Nat} {w : World} {base : Nat} {ok : Nat → Prop} {v : Value} {xs : List α} (h : (scalar enc h1).R e w base ok v xs) : w.ownsRow base e 1 v xs.length (encs enc xs) := by
  obtain ⟨_, inner, ho, hr⟩ := h
  have : inner = encs enc xs := by
    apply List.ext_getElem?
    intro j
    rcases Nat.lt_or_ge j xs.length with hj | hj
    · have h2 := hr.2 j _ (List.getElem?_eq_getElem hj)
      have hl : j < inner.length := by have := hr.1; simp [scalar] at this; omega
      have h3 : (inner.drop (j * 1)).take 1 = [enc xs[j]] := h2
      rw [Nat.mul_one, List.drop_eq_getElem_cons hl] at h3
      have h4 : inner[j] = enc xs[j] := by
        have h5 := congrArg List.head? h3
        rw [List.take_succ_cons] at h5
        exact Option.some.inj h5
      rw [List.getElem?_eq_getElem hl, h4]
      simp [encs, List.getElem?_eq_getElem hj]
    · have h3 : inner.length = xs.length := by have := hr.1; simp [scalar] at this; omega
      rw [List.getElem?_eq_none (by omega), List.getElem?_eq_none (by rw [encs_length]; omega)]
  rw [← this]
  exact ho
theorem reads_of_C {α : Type} {enc : α → Value} {d : α} {h1 : ∀ x, (enc x).oneCell' = true} {w : World} {A : Option Addr} {n : Nat} {xs : List α} (h : (scalar enc h1).C w A n xs) : ReadsOf enc d w A n xs := by
  refine ⟨h.1, h.2.1, fun hn => ?_⟩
  obtain ⟨ad, e, hc⟩ := h.2.2 hn
  refine ⟨ad, e, fun j hj => ?_⟩
  have hl : j < xs.length := by have := h.1; omega
  obtain ⟨c, _, hK, hcell⟩ := hc j _ (List.getElem?_eq_getElem hl)
  have hK' : c = [enc xs[j]] := hK
  subst hK'
  have := hcell 0 _ rfl
  simpa [scalar, List.getD_eq_getElem?_getD, List.getElem?_eq_getElem hl] using this
end Kd
namespace Kd
/-- F says the more, the more its argument says. -/
structure Mono {α β : Type} (F : Kd α → Kd β) : Prop where
  sz : ∀ d d' : Kd α, d.sz = d'.sz → (F d).sz = (F d').sz
  K : ∀ d d' : Kd α, d.sz = d'.sz → (∀ w x cs, d.K w x cs → d'.K w x cs) → ∀ w x cs, (F d).K w x cs → (F d').K w x cs
  M : ∀ d d' : Kd α, d.sz = d'.sz → (∀ w base ok x cs, d.M w base ok x cs → d'.M w base ok x cs) → ∀ w base ok x cs, (F d).M w base ok x cs → (F d').M w base ok x cs
section
variable {α : Type} {F : Kd α → Kd α} {sz : Nat} {E : List Nat} {hs : ∀ n, (upto F sz E n).sz = sz} {hE : ∀ n q, q ∈ (upto F sz E n).E → q ∈ E}
end
end Kd
namespace Kd
end Kd
namespace Kd
section
variable {α β : Type} {d : Kd α} {d' : Kd β} {e e' : Nat} {w w1 W : World} {base b b' : Nat} {ok ok' okv oku : Nat → Prop} {v u : Value} {xs : List α} {ys : List β}
theorem R_alloc (h : d.R e w base ok v xs) (o : Obj) : d.R e (w.alloc o) base ok v xs := R_below h (below_alloc (Below.refl _ _) o)
theorem R_drew (h : d.R e w base ok v xs) : d.R e w.drew base ok v xs := R_below h (below_drew (Below.refl _ _))
theorem R_drewN (h : d.R e w base ok v xs) (m : Nat) : d.R e (w.drewN m) base ok v xs := R_below h (pw_below_drewN (Below.refl _ _) m)
theorem C_alloc {A : Option Addr} {n : Nat} (h : d.C w A n xs) (o : Obj) : d.C (w.alloc o) A n xs := C_below h (below_alloc (Below.refl _ _) o)
theorem C_drew {A : Option Addr} {n : Nat} (h : d.C w A n xs) : d.C w.drew A n xs := C_below h (below_drew (Below.refl _ _))
theorem C_drewN {A : Option Addr} {n : Nat} (h : d.C w A n xs) (m : Nat) : d.C (w.drewN m) A n xs := C_below h (pw_below_drewN (Below.refl _ _) m)
theorem C_nil (d : Kd α) (w : World) : d.C w none ([] : List α).length [] := ⟨rfl, by simp, fun h => absurd h (Nat.lt_irrefl 0)⟩
theorem R_reads' {A : Option Addr} {n c : Nat} (h : d.R e w base ok (.slice A n c) xs) : n = xs.length ∧ n ≤ c ∧ d.C w A xs.length xs := by
  obtain ⟨A', c', he, hl, hr⟩ := R_reads h
  injection he with h1 h2 h3
  subst h1
  exact ⟨h2, by omega, hr⟩
theorem R_lt (h : d.R e w base ok v xs) : ∀ k, v.ownBlock = some k → k < w.heap.size := by
  obtain ⟨inner, ho⟩ := R_own h
  exact own_lt ho
theorem R_base (h : d.R e w base ok v xs) : ∀ k, v.ownBlock = some k → base ≤ k := by
  obtain ⟨inner, ho⟩ := R_own h
  exact own_base ho
/-- The row's own block is no block that isn't ok. -/
theorem R_away (h : d.R e w base ok v xs) {g : Nat} (hok : ∀ k, ok k → k ≠ g) : some g ≠ v.ownBlock := fun e => hok g (h.1 g e.symm) rfl
end
section
variable {w W : World} {A : Option Addr} {n : Nat}
theorem at_int {k : IntKind} {xs : List Int} (h : (Kd.int k).C w A n xs) (i : Int) (h0 : 0 ≤ i) (h1 : i < n) : ∃ ad, A = some ad ∧ w.cell? (ad.add i.toNat) = some (.int k (rd xs i)) :=
  ReadsOf.at_ (reads_of_C (enc := Value.int k) (d := (0 : Int)) (h1 := fun _ => rfl) h) i h0 h1
variable {α : Type} {enc : α → Value} {h1 : ∀ x, (enc x).oneCell' = true} {e base g cap : Nat} {ok : Nat → Prop} {xs : List α}
end

section
variable {P : Program} {ops : Array Oper} {rest : List Oper} {o : Oper} {a : Act} {Q : Exit → Act → World → Prop}
theorem event_run {W w1 : World} {v : Value} (hgd : o.guard = none) (hrun : (execOp a.eval o).run P W = .ok (.value v) w1) (h : wpList P ops Q rest (a.put o.dst v) w1) : wpList P ops Q (o :: rest) a W := by
  refine wpList_plain hgd fun K hK => ?_
  unfold Oper.wp
  rw [hrun]
  exact hK _ _ h
variable {α : Type}
/-- A literal '[]T{..}': inner its cells. 'hd' picks the operation; 'hrun' by '(by go_simp; rfl)'. -/
theorem R_lit (d : Kd α) {w0 W : World} (base e : Nat) (hgd : o.guard = none) {N : Tmp} (_hd : o.dst = some N) {xs : List α} {inner : List Value} {ok okp : Nat → Prop}
    (hrun : (execOp a.eval o).run P W = .ok (.value (.slice (some ⟨W.heap.size, 0, none⟩) xs.length xs.length)) (W.alloc (.cells inner.toArray e)))
    (hrep : Reps (d.M W base okp) d.sz xs inner) (hok : ∀ k, okp k → ok k) (hfresh : ok W.heap.size) (HB : Below base w0 W) (hbase : base ≤ W.heap.size) (hm : xs.length ≤ 9223372036854775807)
    (h : ∀ v1 w1, d.R e w1 base ok v1 xs → Below base w0 w1 → W.grownBy w1 none → (∃ b, v1.ownBlock = some b ∧ W.heap.size ≤ b) → wpList P ops Q rest (a.put o.dst v1) w1) : wpList P ops Q (o :: rest) a W := by
  refine event_run hgd hrun (h _ _ ⟨fun k hk => ?_, inner, ?_, ?_⟩ (HB.alloc hbase _) (World.grownBy_alloc W _ none) ⟨W.heap.size, by simp [Value.ownBlock], Nat.le_refl _⟩)
  · have : W.heap.size = k := by simpa [Value.ownBlock] using hk
    subst this
    exact hfresh
  · have h2 := World.ownsRow_lit (base := base) (e := e) (size := d.sz) W inner.toArray xs.length hbase (by simpa [maxLen] using hm) (by simpa using hrep.1)
    simpa using h2
  · refine hrep.imp_ (fun p c hp => d.M_mono (fun k hk => ⟨hok k hk.1, fun he => ?_⟩) (M_below (d.M_bound hp) (below_alloc (Below.refl _ _) _)))
    have h3 : k = W.heap.size := by simpa [Value.ownBlock] using he
    have := hk.2.2.1
    omega
end
end Kd
section
variable {P : Program}
end
/-- A row of one's own that may begin inside its block. -/
def QRow (w : World) (base : Nat) (e : TypeId) (size : Nat) (v : Value) (n : Nat) (xs : List Value) : Prop :=
  xs.length = n * size ∧
  ((n = 0 ∧ ∃ A, v = .slice A 0 0 ∧ ∀ a, A = some a → base ≤ a.block ∧ ∃ cur, w.heap[a.block]? = some (.cells cur e (0, 0))) ∨
   ∃ g off cap cur, v = .slice (some ⟨g, off * size, none⟩) n cap ∧ base ≤ g ∧ w.heap[g]? = some (.cells cur e (0, 0)) ∧ n ≤ cap ∧ off + cap ≤ maxLen ∧ cur.size = (off + cap) * size ∧ (cur.toList.drop (off * size)).take (n * size) = xs)
section
variable {w w1 : World} {base n size : Nat} {e : TypeId} {v : Value} {xs : List Value}
theorem q_of_own (h : w.ownsRow base e size v n xs) : QRow w base e size v n xs := by
  obtain ⟨h1, h2⟩ := h
  refine ⟨h1, ?_⟩
  rcases h2 with ⟨rfl, h0⟩ | ⟨g, cap, cur, rfl, hb, hh, hnc, hcm, hcs, ht⟩
  · exact .inl ⟨h0, none, rfl, fun a ha => by cases ha⟩
  · exact .inr ⟨g, 0, cap, cur, by rw [Nat.zero_mul], hb, hh, hnc, by rw [Nat.zero_add]; exact hcm, by rw [Nat.zero_add]; exact hcs, by rw [Nat.zero_mul, List.drop_zero]; exact ht⟩
end
section
variable {P : Program}
end
namespace Kd
def Q {α : Type} (d : Kd α) (e : Nat) (w : World) (base : Nat) (ok : Nat → Prop) (v : Value) (xs : List α) : Prop :=
  (∀ k, v.ownBlock = some k → ok k) ∧ ∃ inner, QRow w base e d.sz v xs.length inner ∧ Reps (d.M w base (fun k => ok k ∧ some k ≠ v.ownBlock)) d.sz xs inner
section
variable {α : Type} {d : Kd α} {e : Nat} {w w1 W : World} {base : Nat} {ok ok' : Nat → Prop} {v : Value} {xs : List α}
theorem Q_of_R (h : d.R e w base ok v xs) : d.Q e w base ok v xs := by
  obtain ⟨h0, inner, ho, hr⟩ := h
  exact ⟨h0, inner, q_of_own ho, hr⟩
theorem Q_nil (d : Kd α) (e : Nat) (w : World) (base : Nat) (ok : Nat → Prop) : d.Q e w base ok (.slice none 0 0) [] := Q_of_R (R_nil d e w base ok)
end
section
variable {P : Program} {ops : Array Oper} {rest : List Oper} {o : Oper} {a : Act} {Q' : Exit → Act → World → Prop} {Kc : Act → World → Prop} {α : Type}
end
end Kd
namespace Kd
section
variable {α : Type} {d : Kd α} {e e' : Nat} {w w1 W : World} {base : Nat} {ok : Nat → Prop} {u v : Value} {xs : List α}
theorem R_typed (h : d.R e w base ok v xs) : ∀ k, v.ownBlock = some k → ∃ cells, w.heap[k]? = some (.cells cells e (0, 0)) := by
  obtain ⟨inner, ho⟩ := R_own h
  exact fun k hk => own_typed ho k hk
theorem R_over' (h : d.R e W base ok u xs) (hty : ∀ k, v.ownBlock = some k → ∃ cells, W.heap[k]? = some (.cells cells e' (0, 0))) (ht : ∀ q, q ∈ e :: d.E → q ≠ e') (hg : W.grownBy w1 v.ownBlock) : d.R e w1 base ok u xs := by
  refine R_mono (R_move (R_bound h) (fun k hk => hg.block k hk.2.2.1 (fun he => ?_))) (fun _ hk => hk.1)
  obtain ⟨_, _, _, q, hq, cells, hc⟩ := hk
  obtain ⟨cells', hc'⟩ := hty k he.symm
  rw [hc] at hc'
  injection hc' with hc'
  injection hc' with _ hc'
  exact ht q hq hc'
theorem R_elder' (hu : d.R e W base ok u xs) (hbase : ∀ k, v.ownBlock = some k → W.heap.size ≤ k) (hb : Below W.heap.size W w1) : d.R e w1 base (fun k => ok k ∧ some k ≠ v.ownBlock) u xs :=
  R_mono (R_move (R_bound hu) (fun k hk => hb.block k hk.2.2.1)) (fun k hk => ⟨hk.1, fun he => by have := hbase k he.symm; have := hk.2.2.1; omega⟩)
theorem R_new' (h : d.R e w1 W.heap.size ok v xs) (hlt : ∀ k, u.ownBlock = some k → k < W.heap.size) : d.R e w1 W.heap.size (fun k => ok k ∧ some k ≠ u.ownBlock) v xs :=
  R_mono (R_bound h) (fun k hk => ⟨hk.1, fun he => by have := hlt k he.symm; have := hk.2.1; omega⟩)

end
end Kd
namespace Kd
section
variable {α : Type} {d : Kd α} {e base g n cap : Nat} {ok okp : Nat → Prop} {W : World} {xs : List α}
end
end Kd
namespace Kd
section
variable {α : Type} {F : Kd α → Kd α} {sz : Nat} {E : List Nat} {hs : ∀ n, (upto F sz E n).sz = sz} {hE : ∀ n q, q ∈ (upto F sz E n).E → q ∈ E}
end
end Kd
namespace Kd
section
variable {P : Program} {ops : Array Oper} {rest : List Oper} {o : Oper} {a : Act} {Q : Exit → Act → World → Prop} {α : Type}
end
end Kd
/-- A gate ahead of an arm that names a world: it fails at once at any other operation. 'refine gate_ (.store 3 (.tmp 16) (.tmp 14)) rfl ?_'. -/
theorem gate_ {P : Program} {ops : Array Oper} {rest : List Oper} {o : Oper} {a : Act} {Q : Exit → Act → World → Prop} {W : World} (op : Op) (_ho : o.op = op) (h : wpList P ops Q (o :: rest) a W) : wpList P ops Q (o :: rest) a W := h
namespace Kd
section
variable {P : Program} {ops : Array Oper} {rest : List Oper} {o : Oper} {a : Act} {Q : Exit → Act → World → Prop} {α : Type}
end
end Kd
namespace Kd
section
variable {α : Type} {k : Kd α} {w : World} {A : Option Addr} {xs : List α} {m c : Nat}
end
end Kd
section
variable {P : Program}
end
theorem below_size {w W : World} (h : Below w.heap.size w W) : w.heap.size ≤ W.heap.size := h.size
theorem below_step {w W w2 : World} (h : Below w.heap.size w W) (k : Below W.heap.size W w2) : Below w.heap.size w w2 := below_then h h.size k
theorem ReadsInt.nil (W : World) (k : IntKind) : ReadsInt W k none ([] : List Int).length [] := ⟨rfl, by simp, fun h => absurd h (Nat.lt_irrefl 0)⟩
theorem ReadsInt.drewN {W : World} {k : IntKind} {A : Option Addr} {n : Nat} {xs : List Int} (h : ReadsInt W k A n xs) (m : Nat) : ReadsInt (W.drewN m) k A n xs := h
theorem below_set {w W : World} {g j : Nat} {v : Value} (h : Below w.heap.size w W) (hg : w.heap.size ≤ g) : Below w.heap.size w (W.setCell ⟨g, j, none⟩ v) := h.setCell hg _
theorem keep_cell {w W : World} {g : Nat} (h : KeepBut w W g none) {a : Addr} {v : Value} (hc : w.cell? a = some v) (hne : a.block ≠ g) : W.cell? a = some v := by
  have := h.2 a.block (World.block_lt_of_cell? w a hc) hne (by simp)
  simpa [World.cell?, this] using hc
theorem add_block (a : Addr) (i : Nat) : (a.add i).block = a.block := by unfold Addr.add; split <;> rfl
theorem ReadsOf.nil {α : Type} (enc : α → Value) (d : α) (W : World) : ReadsOf enc d W none ([] : List α).length [] := ⟨rfl, by simp, fun h => absurd h (Nat.lt_irrefl 0)⟩
theorem ReadsOf.drewN {α : Type} {enc : α → Value} {d : α} {W : World} {A : Option Addr} {n : Nat} {xs : List α} (h : ReadsOf enc d W A n xs) (m : Nat) : ReadsOf enc d (W.drewN m) A n xs := h
theorem ReadsInt.keep {w W : World} {k : IntKind} {A : Option Addr} {n g : Nat} {xs : List Int} (h : ReadsInt w k A n xs) (hk : KeepBut w W g none) (hf : ∀ ad, A = some ad → 0 < n → ad.block ≠ g) : ReadsInt W k A n xs :=
  ⟨h.1, h.2.1, fun hn => by
    obtain ⟨ad, e, hc⟩ := h.2.2 hn
    exact ⟨ad, e, fun j hj => keep_cell hk (hc j hj) (by rw [add_block]; exact hf ad e hn)⟩⟩
theorem ReadsOf.keep {α : Type} {enc : α → Value} {d : α} {w W : World} {A : Option Addr} {n g : Nat} {xs : List α} (h : ReadsOf enc d w A n xs) (hk : KeepBut w W g none) (hf : ∀ ad, A = some ad → 0 < n → ad.block ≠ g) : ReadsOf enc d W A n xs :=
  ⟨h.1, h.2.1, fun hn => by
    obtain ⟨ad, e, hc⟩ := h.2.2 hn
    exact ⟨ad, e, fun j hj => keep_cell hk (hc j hj) (by rw [add_block]; exact hf ad e hn)⟩⟩
theorem cell_far {W : World} {p a : Addr} (h : a.block ≠ p.block) (u : Value) : (W.setCell p u).cell? a = W.cell? a := by
  have := Below.heap_setCell W p u a.block h
  simp [World.cell?, this]
theorem blk_put {w : World} {g : Nat} {t : TypeId} {cs cs' : Array Value} (h : w.heap[g]? = some (.cells cs t (0, 0))) (i : Nat) (u : Value) (e : cs.setIfInBounds i u = cs') : (w.setCell ⟨g, i, none⟩ u).heap[g]? = some (.cells cs' t (0, 0)) := e ▸ blk_set h i u
theorem own_blk {W : World} {base n c : Nat} {e : TypeId} {size g : Nat} {ad : Addr} {xs : List Value} (_ : W.ownsRow base e size (.slice (some ad) n c) n xs) (hne : some g ≠ (Value.slice (some ad) n c).ownBlock) : ad.block ≠ g := by
  rintro rfl
  exact hne (by simp [Value.ownBlock])
theorem own_ne_new {W : World} {base n : Nat} {e : TypeId} {size : Nat} {v : Value} {xs : List Value} (h : W.ownsRow base e size v n xs) (k : Nat) : some (W.heap.size + k) ≠ v.ownBlock := by
  rcases h.2 with ⟨rfl, _⟩ | ⟨g, cap, cur, rfl, _, hh, _⟩
  · simp [Value.ownBlock]
  · have := blk_lt hh
    simp [Value.ownBlock]
    omega
theorem below_drew1 {base : Nat} {w W : World} (h : Below base w W) : Below base w W.drew := h.drew
namespace Kd
section
variable {α β : Type} {d : Kd α} {d' : Kd β} {e e' base base' n : Nat} {ok ok' : Nat → Prop} {w W w1 W1 : World} {v u : Value} {xs : List α} {ys : List β} {A : Option Addr} {c : Nat}
theorem own_blk {ad : Addr} {g : Nat} (hne : some g ≠ (Value.slice (some ad) n c).ownBlock) : ad.block ≠ g := by
  rintro rfl
  exact hne (by simp [Value.ownBlock])
end
section
variable {α : Type} {enc : α → Value} {h1 : ∀ x, (enc x).oneCell' = true} {w W : World} {A : Option Addr} {n g : Nat} {xs : List α}
end
end Kd
namespace Kd
section
variable {α : Type} {d : Kd α} {e base g : Nat} {ok : Nat → Prop} {w w1 : World} {v : Value} {xs : List α} {o : Obj}
theorem R_elderB (h : d.R e w base ok v xs) (a : Nat) (ha : w.heap.size ≤ a) : d.R e w base (fun k => ok k ∧ k ≠ a) v xs := R_mono (R_bound h) (fun k hk => ⟨hk.1, by have := hk.2.2.1; omega⟩)
end
end Kd
section
variable {P : Program} {ops : Array Oper} {rest : List Oper} {o : Oper} {a : Act} {Q : Exit → Act → World → Prop}
theorem box_event {W : World} (hgd : o.guard = none) {N : Tmp} (_hd : o.dst = some N) {cs : Array Value} {t : TypeId}
    (hrun : (execOp a.eval o).run P W = .ok (.value (.pointer (some ⟨W.heap.size, 0, none⟩))) (W.alloc (.cells cs t (0, 0))))
    (h : ∀ g, g = W.heap.size → ∀ w1, w1.heap[g]? = some (.cells cs t (0, 0)) → Below W.heap.size W w1 → wpList P ops Q rest (a.put o.dst (.pointer (some ⟨g, 0, none⟩))) w1) : wpList P ops Q (o :: rest) a W :=
  Kd.event_run hgd hrun (h _ rfl _ (blk_new W _) (below_alloc (Below.refl _ _) _))
end
namespace Kd
section
variable {α : Type} {enc : α → Value} {h1 : ∀ x, (enc x).oneCell' = true} {e base g n cap : Nat} {ok : Nat → Prop} {W : World} {xs : List α}
end
end Kd
section
variable {P : Program} {ops : Array Oper} {rest : List Oper} {o : Oper} {a : Act} {Q : Exit → Act → World → Prop}
end
namespace Kd
section
variable {α : Type} {enc : α → Value} {h1 : ∀ x, (enc x).oneCell' = true} {e base g n cap : Nat} {ok : Nat → Prop} {W : World} {xs : List α}
end
end Kd
section
variable {P : Program} {ops : Array Oper} {rest : List Oper} {o : Oper} {a : Act} {Q : Exit → Act → World → Prop} {W : World}
theorem gate_dst {N : Tmp} (_hN : o.dst = some N) (h : wpList P ops Q (o :: rest) a W) : wpList P ops Q (o :: rest) a W := h
end
section
variable {P : Program} {ops : Array Oper} {o : Oper} {a : Act} {Q : Exit → Act → World → Prop} {Kc : Act → World → Prop}
theorem event_step {W w1 : World} {v : Value} (hw : Region.wanted o (yielded ops a.tmps) = true) (hrun : (execOp a.eval o).run P W = .ok (.value v) w1) (h : Kc (a.put o.dst v) w1) : if Region.wanted o (yielded ops a.tmps) = true then Oper.wp P o a W Kc Q else Kc (a.put o.dst undef) W := by
  rw [if_pos hw]
  unfold Oper.wp
  rw [hrun]
  exact h
theorem box_step {W : World} (hw : Region.wanted o (yielded ops a.tmps) = true) {N : Tmp} (_hd : o.dst = some N) {cs : Array Value} {t : TypeId}
    (hrun : (execOp a.eval o).run P W = .ok (.value (.pointer (some ⟨W.heap.size, 0, none⟩))) (W.alloc (.cells cs t (0, 0))))
    (h : ∀ g, g = W.heap.size → ∀ w1, w1.heap[g]? = some (.cells cs t (0, 0)) → Below W.heap.size W w1 → Kc (a.put o.dst (.pointer (some ⟨g, 0, none⟩))) w1) : if Region.wanted o (yielded ops a.tmps) = true then Oper.wp P o a W Kc Q else Kc (a.put o.dst undef) W :=
  event_step hw hrun (h _ rfl _ (blk_new W _) (below_alloc (Below.refl _ _) _))
namespace Kd
variable {α : Type}
end Kd
end
inductive Vals (P : Program) (tmps : Array Value) (w : World) : List ResultVar → List Value → Prop where
  | nil : Vals P tmps w [] []
  | tmp {u : Tmp} {rs : List ResultVar} {vs : List Value} (h : Vals P tmps w rs vs) : Vals P tmps w (.tmp u :: rs) (tmps.getD u undef :: vs)
  | cell {p : Tmp} {ty : TypeId} {rs : List ResultVar} {vs : List Value} (g : Nat) (t : TypeId) (cs : Array Value) (fr : Nat × Nat) (d : TypeDesc)
      (hp : tmps.getD p undef = .pointer (some ⟨g, 0, none⟩)) (hg : w.heap[g]? = some (.cells cs t fr))
      (hu : P.underlying ty = some d) (hd : (match d with | .struct _ | .array _ _ => true | _ => false) = true) (hi : (P.info? ty).map (·.size) = some cs.size)
      (h : Vals P tmps w rs vs) : Vals P tmps w (.cell p ty :: rs) (.agg cs :: vs)
section
variable {P : Program} {tmps : Array Value} {w : World}
end
namespace Kd
section
variable {P : Program} {α : Type}
end
section
variable {P : Program} {ops : Array Oper} {rest : List Oper} {o : Oper} {a : Act} {Q : Exit → Act → World → Prop} {Kc : Act → World → Prop} {α : Type}
end
end Kd

end Go.Proofs.YtgddljealeklkaaDoorW.PrintWords
end
-- WLast
section
namespace Go.Proofs.YtgddljealeklkaaDoorW.PrintLast

section
variable {P : Program} {ops : Array Oper} {Q : Exit → Act → World → Prop} {md : Region.Mode} {S : World → Prop} {ds : List Nat}

/-- Operation d waits for operation i, by a chain of at most 'fuel' edges. -/
def Region.reachB (md : Region.Mode) (ops : Array Oper) (i : Nat) : Nat → Nat → Bool
  | 0, _ => false
  | fuel + 1, d => match ops[d]? with
    | some o => o.after.any fun e => Region.binds md e && (e.on == i || Region.reachB md ops i fuel e.on)
    | none => false

/-- What is listed is closed under the edges. -/
def Region.closedB (md : Region.Mode) (ops : Array Oper) (listed : Array Bool) : Bool :=
  (List.range ops.size).all fun j => !listed.getD j false || match ops[j]? with
    | some o => o.after.all fun e => !Region.binds md e || listed.getD e.on false
    | none => true

/-- Each of ds that has not come up yet waits for number i. -/
def Region.lastB (md : Region.Mode) (ops : Array Oper) (listed : Array Bool) (ds : List Nat) (i : Nat) : Bool :=
  ds.all fun d => listed.getD d true || Region.reachB md ops i ops.size d

def ListedClosed (md : Region.Mode) (ops : Array Oper) (listed : Array Bool) : Prop :=
  ∀ j oj, ops[j]? = some oj → listed.getD j false = true → ∀ e ∈ oj.after, Region.binds md e = true → listed.getD e.on false = true

theorem Region.closedB_spec {listed : Array Bool} (h : Region.closedB md ops listed = true) : ListedClosed md ops listed := by
  intro j oj hj hl e he hb
  have hlt : j < ops.size := (Array.getElem?_eq_some_iff.1 hj).1
  have h1 := List.all_eq_true.1 h j (List.mem_range.2 hlt)
  simp only [hl, hj, Bool.not_true, Bool.false_or] at h1
  have h2 := Array.all_eq_true_iff_forall_mem.1 h1 e he
  simpa [hb] using h2

theorem ListedClosed.set {listed : Array Bool} {i : Nat} (h : ListedClosed md ops listed) (hi : i ∈ Region.ready md ops listed) : ListedClosed md ops (listed.setIfInBounds i true) := by
  obtain ⟨_, oi, hoi, hall⟩ := mem_ready.1 hi
  intro j oj hj hl e he hb
  by_cases hij : i = j
  · subst hij
    have : oj = oi := Option.some.inj (hj.symm.trans hoi)
    subst this
    exact getD_set_true (hall e he hb)
  · rw [getD_set_ne false hij] at hl
    exact getD_set_true (h j oj hj hl e he hb)

theorem Region.reach_listed {listed : Array Bool} {i : Nat} (hc : ListedClosed md ops listed) : ∀ (fuel d : Nat), Region.reachB md ops i fuel d = true → listed.getD d false = true → listed.getD i false = true
  | 0, _, h, _ => by simp [Region.reachB] at h
  | fuel + 1, d, h, hl => by
    unfold Region.reachB at h
    cases ho : ops[d]? with
    | none => rw [ho] at h; simp at h
    | some o =>
      rw [ho] at h
      obtain ⟨e, he, h1⟩ := Array.any_eq_true'.1 h
      simp only [Bool.and_eq_true, Bool.or_eq_true, beq_iff_eq] at h1
      have hle := hc d o ho hl e he h1.1
      rcases h1.2 with h2 | h2
      · rw [← h2]; exact hle
      · exact Region.reach_listed hc fuel e.on h2 hle

/-- What waits for i cannot come up before i is listed. -/
theorem Region.reach_not_ready {listed : Array Bool} {i d fuel : Nat} (hc : ListedClosed md ops listed) (hr : Region.reachB md ops i fuel d = true) (hun : listed.getD i true = false) : d ∉ Region.ready md ops listed := by
  intro hd
  obtain ⟨_, o, ho, hall⟩ := mem_ready.1 hd
  have hi : listed.getD i false = true := by
    cases fuel with
    | zero => simp [Region.reachB] at hr
    | succ n =>
      unfold Region.reachB at hr
      rw [ho] at hr
      obtain ⟨e, he, h1⟩ := Array.any_eq_true'.1 hr
      simp only [Bool.and_eq_true, Bool.or_eq_true, beq_iff_eq] at h1
      have hle := hall e he h1.1
      rcases h1.2 with h2 | h2
      · rw [← h2]; exact hle
      · exact Region.reach_listed hc n e.on h2 hle
  rcases Nat.lt_or_ge i listed.size with h' | h'
  · simp [h'] at hun hi
    rw [hun] at hi
    cases hi
  · simp [Array.getElem?_eq_none h'] at hun

/-- Whatever order is picked from here on, AND 'S' HOLDS BEHIND EVERY OPERATION THAT IS CARRIED OUT, those of ds apart. -/
def wpAnyLast (P : Program) (md : Region.Mode) (ops : Array Oper) (Q : Exit → Act → World → Prop) (S : World → Prop) (ds : List Nat) : Nat → Array Bool → Act → World → Prop
  | 0, listed, a, w => Region.ready md ops listed = [] ∧ Q .normal a w
  | fuel + 1, listed, a, w =>
    (Region.ready md ops listed = [] → Q .normal a w) ∧
    ∀ i ∈ Region.ready md ops listed, wpOp P ops Q i (fun a' w' => (i ∉ ds → S w → S w') ∧ wpAnyLast P md ops Q S ds fuel (listed.setIfInBounds i true) a' w') a w

theorem wpAny_of_last : ∀ (fuel : Nat) (listed : Array Bool) (a : Act) (w : World), wpAnyLast P md ops Q S ds fuel listed a w → wpAny P md ops Q fuel listed a w
  | 0, _, _, _, h => h
  | fuel + 1, _, _, _, h => ⟨h.1, fun i hi => wpOp_mono (fun a' w' h' => wpAny_of_last fuel _ a' w' h'.2) (h.2 i hi)⟩

theorem wpAnyLast_first {i : Nat} {oi : Oper} {v : Value} (hi : ops[i]? = some oi) (hsel : ∀ (j : Nat) (o : Oper) cs b, ops[j]? = some o → o.op ≠ .select cs b)
    (hQ : ∀ c a w, Q (.panic c) (a.put oi.dst v) w → Q (.panic c) a w) (n : Nat) :
    ∀ (fuel : Nat) (listed : Array Bool) (a : Act) (w : World),
      (∀ j oj, ops[j]? = some oj → j ≠ i → listed.getD j true = false → (∀ e ∈ oj.after, Region.binds md e = true → e.on ≠ i) → oi.apart ops oj = true) →
      ListedClosed md ops listed → (∀ d ∈ ds, listed.getD d true = false → Region.reachB md ops i n d = true) →
      i ∈ Region.ready md ops listed → YieldsIf P ops S oi v a → S w →
      wpAnyLast P md ops Q S ds fuel (listed.setIfInBounds i true) (a.put oi.dst v) w → wpAnyLast P md ops Q S ds (fuel + 1) listed a w := by
  intro fuel
  induction fuel with
  | zero =>
    intro listed a w _ _ _ hr hy hS H
    refine ⟨fun h => (by rw [h] at hr; cases hr), fun j hj => ?_⟩
    by_cases hji : j = i
    · subst hji; exact hy.wpOp hi hS ⟨fun _ h => h, H⟩
    · have := ready_mono hj hji
      rw [H.1] at this
      cases this
  | succ fuel ih =>
    intro listed a w hfree hc hd hr hy hS H
    refine ⟨fun h => (by rw [h] at hr; cases hr), fun j hj => ?_⟩
    by_cases hji : j = i
    · subst hji; exact hy.wpOp hi hS ⟨fun _ h => h, H⟩
    · have h1 := H.2 j (ready_mono hj hji)
      obtain ⟨hjun, oj, hoj, hall⟩ := mem_ready.1 hj
      have hiun := (mem_ready.1 hr).1
      have hnot : ∀ e ∈ oj.after, Region.binds md e = true → e.on ≠ i := fun e he hb heq => by
        have h1 := hall e he hb
        rw [heq] at h1
        rcases Nat.lt_or_ge i listed.size with h' | h'
        · simp [h'] at hiun h1; rw [hiun] at h1; cases h1
        · simp [Array.getElem?_eq_none h'] at h1
      have hjd : j ∉ ds := fun hm => Region.reach_not_ready hc (hd j hm hjun) hiun hj
      have h2 := wpOp_putIf hoj (hfree j oj hoj hji hjun hnot) (fun cs b => hsel i oi cs b hi) (fun cs b => hsel j oj cs b hoj) hQ hy h1
      have hfree' : ∀ k ok, ops[k]? = some ok → k ≠ i → (listed.setIfInBounds j true).getD k true = false →
          (∀ e ∈ ok.after, Region.binds md e = true → e.on ≠ i) → oi.apart ops ok = true := fun k ok hk hki hun hno => by
        refine hfree k ok hk hki ?_ hno
        by_cases hjk : j = k
        · subst hjk; exact hjun
        · rw [getD_set_ne true hjk] at hun; exact hun
      have hd' : ∀ d ∈ ds, (listed.setIfInBounds j true).getD d true = false → Region.reachB md ops i n d = true := fun d hm hun => by
        refine hd d hm ?_
        by_cases hjk : j = d
        · subst hjk; exact hjun
        · rw [getD_set_ne true hjk] at hun; exact hun
      refine wpOp_mono (fun a' w' h3 => ⟨h3.2.1, ih (listed.setIfInBounds j true) a' w' hfree' (hc.set hj) hd' (ready_mono hr (Ne.symm hji)) h3.1 (h3.2.1 hjd hS) ?_⟩) h2
      rw [Array.setIfInBounds_comm _ _ hji]
      exact h3.2.2

/-- Take number 'i' first, which yields whatever the world: no S is asked for, nor that anything waits for it. -/
theorem wpAnyLast_any {i : Nat} {oi : Oper} {v : Value} (hi : ops[i]? = some oi) (hsel : ∀ (j : Nat) (o : Oper) cs b, ops[j]? = some o → o.op ≠ .select cs b)
    (hQ : ∀ c a w, Q (.panic c) (a.put oi.dst v) w → Q (.panic c) a w) :
    ∀ (fuel : Nat) (listed : Array Bool) (a : Act) (w : World),
      (∀ j oj, ops[j]? = some oj → j ≠ i → listed.getD j true = false → (∀ e ∈ oj.after, Region.binds md e = true → e.on ≠ i) → oi.apart ops oj = true) →
      i ∈ Region.ready md ops listed → Yields P ops oi v a →
      wpAnyLast P md ops Q S ds fuel (listed.setIfInBounds i true) (a.put oi.dst v) w → wpAnyLast P md ops Q S ds (fuel + 1) listed a w := by
  intro fuel
  induction fuel with
  | zero =>
    intro listed a w _ hr hy H
    refine ⟨fun h => (by rw [h] at hr; cases hr), fun j hj => ?_⟩
    by_cases hji : j = i
    · subst hji; exact (hy.yieldsIf (S := fun _ => True)).wpOp hi trivial ⟨fun _ h => h, H⟩
    · have := ready_mono hj hji
      rw [H.1] at this
      cases this
  | succ fuel ih =>
    intro listed a w hfree hr hy H
    refine ⟨fun h => (by rw [h] at hr; cases hr), fun j hj => ?_⟩
    by_cases hji : j = i
    · subst hji; exact (hy.yieldsIf (S := fun _ => True)).wpOp hi trivial ⟨fun _ h => h, H⟩
    · have h1 := H.2 j (ready_mono hj hji)
      obtain ⟨hjun, oj, hoj, hall⟩ := mem_ready.1 hj
      have hiun := (mem_ready.1 hr).1
      have hnot : ∀ e ∈ oj.after, Region.binds md e = true → e.on ≠ i := fun e he hb heq => by
        have h1 := hall e he hb
        rw [heq] at h1
        rcases Nat.lt_or_ge i listed.size with h' | h'
        · simp [h'] at hiun h1; rw [hiun] at h1; cases h1
        · simp [Array.getElem?_eq_none h'] at h1
      have h2 := wpOp_put hoj (hfree j oj hoj hji hjun hnot) (fun cs b => hsel i oi cs b hi) (fun cs b => hsel j oj cs b hoj) hQ hy h1
      have hfree' : ∀ k ok, ops[k]? = some ok → k ≠ i → (listed.setIfInBounds j true).getD k true = false →
          (∀ e ∈ ok.after, Region.binds md e = true → e.on ≠ i) → oi.apart ops ok = true := fun k ok hk hki hun hno => by
        refine hfree k ok hk hki ?_ hno
        by_cases hjk : j = k
        · subst hjk; exact hjun
        · rw [getD_set_ne true hjk] at hun; exact hun
      refine wpOp_mono (fun a' w' h3 => ⟨h3.2.1, ih (listed.setIfInBounds j true) a' w' hfree' (ready_mono hr (Ne.symm hji)) h3.1 ?_⟩) h2
      rw [Array.setIfInBounds_comm _ _ hji]
      exact h3.2.2

/-- Take number 'i' first. -/
theorem wpAnyLast_take {i : Nat} {oi : Oper} {v : Value} {fuel : Nat} {listed : Array Bool} {a : Act} {w : World} (hi : ops[i]? = some oi)
    (hs : Region.noSelect ops = true) (hf : Region.free md ops listed i = true) (hr : (Region.ready md ops listed).contains i = true)
    (hc : Region.closedB md ops listed = true) (hl : Region.lastB md ops listed ds i = true)
    (hQ : ∀ c a w, Q (.panic c) (a.put oi.dst v) w → Q (.panic c) a w) (hy : YieldsIf P ops S oi v a) (hS : S w)
    (h : wpAnyLast P md ops Q S ds fuel (listed.setIfInBounds i true) (a.put oi.dst v) w) : wpAnyLast P md ops Q S ds (fuel + 1) listed a w :=
  wpAnyLast_first hi (Region.noSelect_spec hs) hQ ops.size fuel listed a w (Region.free_spec hi hf) (Region.closedB_spec hc)
    (fun d hm hun => by have := List.all_eq_true.1 hl d hm; rw [hun] at this; simpa using this) (by simpa using hr) hy hS h

theorem wpAnyLast_all {rs : List Nat} {fuel : Nat} {listed : Array Bool} {a : Act} {w : World} (hr : Region.ready md ops listed = rs) (hne : rs ≠ [])
    (h : ∀ i ∈ rs, wpOp P ops Q i (fun a' w' => (i ∉ ds → S w → S w') ∧ wpAnyLast P md ops Q S ds fuel (listed.setIfInBounds i true) a' w') a w) : wpAnyLast P md ops Q S ds (fuel + 1) listed a w :=
  ⟨fun h0 => absurd (hr ▸ h0) hne, hr ▸ h⟩

theorem wpAnyLast_done {listed : Array Bool} {a : Act} {w : World} (hr : Region.ready md ops listed = []) (h : Q .normal a w) :
    ∀ fuel, wpAnyLast P md ops Q S ds fuel listed a w
  | 0 => ⟨hr, h⟩
  | _ + 1 => ⟨fun _ => h, by rw [hr]; simp⟩

theorem wp_region_last {id : Nat} {a : Act} {w : World} (hm : P.follows .mixedOrders = true)
    (h : wpAnyLast P .any ops Q S ds ops.size (Array.replicate ops.size false) a { w with drawn := w.drawn + 1 }) : (Code.region id ops true).wp P Q a w :=
  wp_region_any hm (wpAny_of_last _ _ _ _ h)

end

section
variable {P : Program} {ops : Array Oper} {Q : Exit → Act → World → Prop} {md : Region.Mode} {S : World → Prop} {ds : List Nat}

def AllReadyL (P : Program) (md : Region.Mode) (ops : Array Oper) (Q : Exit → Act → World → Prop) (S : World → Prop) (ds : List Nat) (fuel : Nat) (listed : Array Bool) (a : Act) (w : World) (rs : List Nat) : Prop :=
  ∀ i ∈ rs, wpOp P ops Q i (fun a' w' => (i ∉ ds → S w → S w') ∧ wpAnyLast P md ops Q S ds fuel (listed.setIfInBounds i true) a' w') a w
theorem AllReadyL.nil {fuel : Nat} {listed : Array Bool} {a : Act} {w : World} : AllReadyL P md ops Q S ds fuel listed a w [] := fun _ h => by cases h
theorem AllReadyL.cons {fuel : Nat} {listed : Array Bool} {a : Act} {w : World} {i : Nat} {o : Oper} {rs : List Nat} (ho : ops[i]? = some o) (hd : i ∉ ds)
    (h : ∀ K' : Act → World → Prop, Shut (∀ a w, S w → (S w → wpAnyLast P md ops Q S ds fuel (listed.setIfInBounds i true) a w) → K' a w) → if Region.wanted o (yielded ops a.tmps) = true then Oper.wp P o a w K' Q else K' (a.put o.dst undef) w)
    (hs : AllReadyL P md ops Q S ds fuel listed a w rs) : AllReadyL P md ops Q S ds fuel listed a w (i :: rs) := fun j hj => by
  rcases List.mem_cons.1 hj with rfl | hj
  · exact wpOp_step ho (fun K' hK => h K' (fun a w hS hW => hK a w ⟨fun _ _ => hS, hW hS⟩))
  · exact hs j hj
/-- Behind an operation of ds nothing is shown. -/
theorem AllReadyL.cons_last {fuel : Nat} {listed : Array Bool} {a : Act} {w : World} {i : Nat} {o : Oper} {rs : List Nat} (ho : ops[i]? = some o) (hd : i ∈ ds)
    (h : ∀ K' : Act → World → Prop, Shut (∀ a w, wpAnyLast P md ops Q S ds fuel (listed.setIfInBounds i true) a w → K' a w) → if Region.wanted o (yielded ops a.tmps) = true then Oper.wp P o a w K' Q else K' (a.put o.dst undef) w)
    (hs : AllReadyL P md ops Q S ds fuel listed a w rs) : AllReadyL P md ops Q S ds fuel listed a w (i :: rs) := fun j hj => by
  rcases List.mem_cons.1 hj with rfl | hj
  · exact wpOp_step ho (fun K' hK => h K' (fun a w hW => hK a w ⟨fun hn => absurd hd hn, hW⟩))
  · exact hs j hj
theorem wpAnyLast_ready {rs : List Nat} {fuel : Nat} {listed : Array Bool} {a : Act} {w : World} (hr : Region.ready md ops listed = rs) (hne : rs ≠ [])
    (h : AllReadyL P md ops Q S ds fuel listed a w rs) : wpAnyLast P md ops Q S ds (fuel + 1) listed a w := wpAnyLast_all hr hne h
theorem wp_region_last_drew {id : Nat} {a : Act} {w : World} (hm : P.follows .mixedOrders = true) (hS : S w.drew)
    (h : S w.drew → wpAnyLast P .any ops Q S ds ops.size (Array.replicate ops.size false) a w.drew) : (Code.region id ops true).wp P Q a w :=
  wp_region_last hm (h hS)
/-- THE SAME STEPS WITH WHAT HAS COME UP WRITTEN OUT (a literal array of Bools) and one check a step: quicker, and what is printed stays short. -/
theorem start_ {id n : Nat} {a : Act} {w : World} (l : Array Bool) (hm : P.follows .mixedOrders = true) (hn : ops.size = n) (hl : Array.replicate n false = l) (hS : S w.drew)
    (h : S w.drew → wpAnyLast P .any ops Q S ds n l a w.drew) : (Code.region id ops true).wp P Q a w := by
  subst hn
  subst hl
  exact wp_region_last hm (h hS)
def takeB (md : Region.Mode) (ops : Array Oper) (ds : List Nat) (l l' : Array Bool) (i : Nat) : Bool :=
  Region.noSelect ops && Region.free md ops l i && (Region.ready md ops l).contains i && Region.closedB md ops l && Region.lastB md ops l ds i && (l.setIfInBounds i true == l')
theorem take_ {i : Nat} {N : Option Tmp} {oi : Oper} {v : Value} {fuel : Nat} {l : Array Bool} {a : Act} {w : World} (l' : Array Bool) (hi : ops[i]? = some oi) (hN : oi.dst = N) (hc : takeB md ops ds l l' i = true)
    (hQ : ∀ c a w, Q (.panic c) (a.put oi.dst v) w → Q (.panic c) a w) (hy : YieldsIf P ops S oi v a) (hS : S w) {a' : Act} (ha : a.put N v = a')
    (h : wpAnyLast P md ops Q S ds fuel l' a' w) : wpAnyLast P md ops Q S ds (fuel + 1) l a w := by
  subst ha
  subst hN
  simp only [takeB, Bool.and_eq_true, beq_iff_eq] at hc
  obtain ⟨⟨⟨⟨⟨h1, h2⟩, h3⟩, h4⟩, h5⟩, h6⟩ := hc
  subst h6
  exact wpAnyLast_take hi h1 h2 h3 h4 h5 hQ hy hS h
def anyB (md : Region.Mode) (ops : Array Oper) (l l' : Array Bool) (i : Nat) : Bool :=
  Region.noSelect ops && Region.free md ops l i && (Region.ready md ops l).contains i && (l.setIfInBounds i true == l')
/-- An operation that yields in every world (a move, a number, an address): taken first wherever it may come up, behind a store too. -/
theorem pure_ {i : Nat} {N : Option Tmp} {oi : Oper} {v : Value} {fuel : Nat} {l : Array Bool} {a : Act} {w : World} (l' : Array Bool) (hi : ops[i]? = some oi) (hN : oi.dst = N) (hc : anyB md ops l l' i = true)
    (hQ : ∀ c a w, Q (.panic c) (a.put oi.dst v) w → Q (.panic c) a w) (hy : Yields P ops oi v a) {a' : Act} (ha : a.put N v = a')
    (h : wpAnyLast P md ops Q S ds fuel l' a' w) : wpAnyLast P md ops Q S ds (fuel + 1) l a w := by
  subst ha
  subst hN
  simp only [anyB, Bool.and_eq_true, beq_iff_eq] at hc
  obtain ⟨⟨⟨h1, h2⟩, h3⟩, h6⟩ := hc
  subst h6
  exact wpAnyLast_any hi (Region.noSelect_spec h1) hQ fuel l a w (Region.free_spec hi h2) (by simpa using h3) hy h
def readyB (md : Region.Mode) (ops : Array Oper) (l l' : Array Bool) (i : Nat) : Bool := (Region.ready md ops l == [i]) && (l.setIfInBounds i true == l')
/-- One operation alone may come up now (a call, a build, an append ..): it is run, S is shown behind it. -/
theorem one_ {i : Nat} {N : Option Tmp} {oi : Oper} {fuel : Nat} {l : Array Bool} {a : Act} {w : World} (l' : Array Bool) (hi : ops[i]? = some oi) (hN : oi.dst = N) (hc : readyB md ops l l' i = true) (hd : i ∉ ds)
    (h : ∀ K : Act → World → Prop, Shut (∀ a' w', S w' → (S w' → wpAnyLast P md ops Q S ds fuel l' a' w') → K a' w') → if Region.wanted oi (yielded ops a.tmps) = true then Oper.wp P oi a w K Q else K (a.put N undef) w) :
    wpAnyLast P md ops Q S ds (fuel + 1) l a w := by
  subst hN
  simp only [readyB, Bool.and_eq_true, beq_iff_eq] at hc
  obtain ⟨h1, h2⟩ := hc
  subst h2
  exact wpAnyLast_ready h1 (by simp) (AllReadyL.cons hi hd (fun K hK => h K hK) AllReadyL.nil)
theorem done_ {l : Array Bool} {a : Act} {w : World} {n : Nat} (hr : (Region.ready md ops l == []) = true) (h : Q .normal a w) : wpAnyLast P md ops Q S ds n l a w := wpAnyLast_done (by simpa using hr) h n
/-- The act written out. -/
theorem norm_ {fuel : Nat} {l : Array Bool} {a a' : Act} {w : World} (ha : a = a') (h : wpAnyLast P md ops Q S ds fuel l a' w) : wpAnyLast P md ops Q S ds fuel l a w := by
  subst ha
  exact h
/-- A call of a Go function, by its contract. -/
theorem call_ {oi : Oper} {N : Option Tmp} {a : Act} {w : World} {K : Act → World → Prop} (f : FuncId) (args : Array Value) (hw : Region.wanted oi (yielded ops a.tmps) = true) (hN : oi.dst = N) (hrun : (execOp a.eval oi).run P w = .ok (.enter f args) w)
    (h : Calls P f args w fun e w' => ∃ v, e = .returned v ∧ K (a.put N v) w') : if Region.wanted oi (yielded ops a.tmps) = true then Oper.wp P oi a w K Q else K (a.put N undef) w := by
  rw [if_pos hw]
  subst hN
  unfold Oper.wp
  rw [hrun, Oper.upon_enter]
  refine h.mono fun e w'' hh => ?_
  obtain ⟨v, rfl, hk⟩ := hh
  exact hk
theorem enters_ {f : FuncId} {fn : Func} (hf : P.funcs[f]? = some fn) (hname : (fn.name == "runtime.NumGoroutine") = false) (hb : fn.body.isSome = true) (args : Array Value) (w : World) : (callFunc f args).run P w = .ok (.enter f args) w := by
  have h1 : fn.name ≠ "runtime.NumGoroutine" := by simpa using hname
  obtain ⟨c, hc⟩ := Option.isSome_iff_exists.1 hb
  simp [callFunc, hf, h1, hc]
/-- A call in a plain region, as an arm of go_wp2_with ('hd' first: it fails at once at another operation). -/
theorem goesL_ {rest : List Oper} {oi : Oper} {a : Act} {w : World} (N : Option Tmp) (hd : oi.dst = N) (hg : oi.guard = none) {f : FuncId} {fn : Func} {as_ : Array Operand} {ts : Array TypeId} (hf : P.funcs[f]? = some fn) (hname : (fn.name == "runtime.NumGoroutine") = false) (hb : fn.body.isSome = true) (args : Array Value)
    (hop : oi.op = .call { callee := .value (.func f), args := as_, argTypes := ts }) (hargs : as_.map a.eval = args)
    (h : Calls P f args w fun e w' => ∃ v, e = .returned v ∧ wpList P ops Q rest (a.put N v) w') : wpList P ops Q (oi :: rest) a w := by
  refine wpList_plain hg fun K hK => ?_
  have he := enters_ hf hname hb args w
  have hrun : (execOp a.eval oi).run P w = .ok (.enter f args) w := by
    unfold execOp
    simp [hop, resolve, Deferred.ofValue, invoke, Act.eval, hargs, he]
  unfold Oper.wp
  rw [hrun, Oper.upon_enter]
  refine h.mono fun e w'' hh => ?_
  obtain ⟨v, rfl, hk⟩ := hh
  subst hd
  exact hK _ _ hk
/-- A store. -/
theorem skip_ {oi : Oper} {a : Act} {w w1 : World} {K : Act → World → Prop} (hw : Region.wanted oi (yielded ops a.tmps) = true) (hN : oi.dst = none) (hrun : (execOp a.eval oi).run P w = .ok .skip w1)
    (h : K a w1) : if Region.wanted oi (yielded ops a.tmps) = true then Oper.wp P oi a w K Q else K (a.put none undef) w := by
  rw [if_pos hw]
  unfold Oper.wp
  rw [hrun]
  show K (a.put oi.dst undef) w1
  rw [hN]
  exact h
theorem i64_w (n : Int) : IntKind.i64.wrap n = Go.RowKit.wrap64 n := by unfold Go.RowKit.wrap64; exact IntKind.wrap_i64 n
theorem i32_w (n : Int) : IntKind.i32.wrap n = Go.RowKit.wrap32 n := by unfold Go.RowKit.wrap32; exact IntKind.wrap_i32 n
end
end Go.Proofs.YtgddljealeklkaaDoorW.PrintLast
end
-- WApart
section
namespace Go.Proofs.YtgddljealeklkaaDoorW.PrintWords
open Go.RowKit
namespace Kd
/-- An element with its index: its blocks are those that f gives to it. -/
def tag {α : Type} (f : Nat → Nat) (d : Kd α) : Kd (α × Nat) where
  sz := d.sz
  E := d.E
  K := fun w x cs => d.K w x.1 cs
  M := fun w base ok x cs => d.M w base (fun k => ok k ∧ f k = x.2) x.1 cs
  K_len := fun h => d.K_len h
  K_one := fun h => d.K_one h
  K_below := fun hb h => d.K_below hb h
  K_of_M := fun h => d.K_of_M h
  M_mono := fun hok h => d.M_mono (fun k hk => ⟨hok k hk.1, hk.2⟩) h
  M_bound := fun h => d.M_mono (fun _ hk => ⟨⟨hk.1.1, hk.2⟩, hk.1.2⟩) (d.M_bound h)
  M_move := fun hm h => d.M_move (fun k hk => hm k hk.1) h
  M_lower := fun hb h => d.M_lower hb h
/-- The cells themselves. -/
def raw (sz : Nat) : Kd (List Value) where
  sz := sz
  E := []
  K := fun _ x cs => cs = x ∧ cs.length = sz ∧ ∀ u ∈ cs, u.oneCell' = true
  M := fun _ _ _ x cs => cs = x ∧ cs.length = sz ∧ ∀ u ∈ cs, u.oneCell' = true
  K_len := fun h => h.2.1
  K_one := fun h => h.2.2
  K_below := fun _ h => h
  K_of_M := fun h => h
  M_mono := fun _ h => h
  M_bound := fun h => h
  M_move := fun _ h => h
  M_lower := fun _ h => h
/-- A row of elements (type e) of the call's own, no two of which lead to one block. -/
def S {α : Type} (d : Kd α) (e : Nat) (w : World) (base : Nat) (ok : Nat → Prop) (v : Value) (xs : List α) : Prop := ∃ f, (tag f d).R e w base ok v xs.zipIdx
section
variable {α β : Type} {d : Kd α} {d' : Kd β} {e e' : Nat} {w w1 W : World} {base b : Nat} {ok ok' okv oku : Nat → Prop} {u v : Value} {xs : List α} {ys : List β}
theorem S_nil (d : Kd α) (e : Nat) (w : World) (base : Nat) (ok : Nat → Prop) : S d e w base ok (.slice none 0 0) [] := ⟨fun _ => 0, R_nil _ _ _ _ _⟩
end
section
variable {α β : Type} {d : Kd α} {d' : Kd β} {e e' g : Nat} {w w1 W : World} {base b : Nat} {ok ok' okv oku : Nat → Prop} {u v : Value} {xs : List α} {ys : List β}
end
section
variable {P : Program} {ops : Array Oper} {rest : List Oper} {o : Oper} {a : Act} {Q : Exit → Act → World → Prop} {Kc : Act → World → Prop} {α : Type}
end
/-- Element i is these cells; the others are d's. -/
def gap {α : Type} (f : Nat → Nat) (d : Kd α) (i : Nat) (c : List Value) : Kd (α × Nat) where
  sz := d.sz
  E := d.E
  K := fun w x cs => (x.2 = i → cs = c ∧ cs.length = d.sz ∧ ∀ u ∈ cs, u.oneCell' = true) ∧ (x.2 ≠ i → d.K w x.1 cs)
  M := fun w base ok x cs => (x.2 = i → cs = c ∧ cs.length = d.sz ∧ ∀ u ∈ cs, u.oneCell' = true) ∧ (x.2 ≠ i → d.M w base (fun k => ok k ∧ f k = x.2) x.1 cs)
  K_len := fun {w x cs} h => by
    by_cases hx : x.2 = i
    · exact (h.1 hx).2.1
    · exact d.K_len (h.2 hx)
  K_one := fun {w x cs} h => by
    by_cases hx : x.2 = i
    · exact (h.1 hx).2.2
    · exact d.K_one (h.2 hx)
  K_below := fun hb h => ⟨h.1, fun hx => d.K_below hb (h.2 hx)⟩
  K_of_M := fun h => ⟨h.1, fun hx => d.K_of_M (h.2 hx)⟩
  M_mono := fun hok h => ⟨h.1, fun hx => d.M_mono (fun k hk => ⟨hok k hk.1, hk.2⟩) (h.2 hx)⟩
  M_bound := fun h => ⟨h.1, fun hx => d.M_mono (fun _ hk => ⟨⟨hk.1.1, hk.2⟩, hk.1.2⟩) (d.M_bound (h.2 hx))⟩
  M_move := fun hm h => ⟨h.1, fun hx => d.M_move (fun k hk => hm k hk.1) (h.2 hx)⟩
  M_lower := fun hb h => ⟨h.1, fun hx => d.M_lower hb (h.2 hx)⟩
def H {α : Type} (d : Kd α) (e : Nat) (w : World) (base : Nat) (ok : Nat → Prop) (v : Value) (xs : List α) (i : Int) (oki : Nat → Prop) (c : List Value) : Prop :=
  (∀ k, oki k → ok k) ∧ ∃ f, (gap f d i.toNat c).R e w base (fun k => ok k ∧ ¬ oki k) v xs.zipIdx
section
variable {α β : Type} {d : Kd α} {e e' g n cap : Nat} {w w1 W : World} {base : Nat} {ok ok' oki okp : Nat → Prop} {u v : Value} {xs : List α} {i : Int} {c : List Value}
end
section
variable {P : Program} {ops : Array Oper} {rest : List Oper} {o : Oper} {a : Act} {Q : Exit → Act → World → Prop} {α : Type}
end
end Kd
end Go.Proofs.YtgddljealeklkaaDoorW.PrintWords
end
-- WArr
section
namespace Go.Proofs.YtgddljealeklkaaDoorW.PrintWords
open Go.RowKit
namespace Kd
theorem reps_one {α : Type} {R : α → List Value → Prop} {size : Nat} {ps : List α} {cs : List Value} (h : Reps R size ps cs) (hs0 : 0 < size) (hR : ∀ p c, R p c → ∀ u ∈ c, u.oneCell' = true) : ∀ u ∈ cs, u.oneCell' = true := by
  intro u hu
  obtain ⟨q, hq, rfl⟩ := List.mem_iff_getElem.1 hu
  have hql : q / size < ps.length := by
    rw [Nat.div_lt_iff_lt_mul hs0, ← h.1]
    exact hq
  refine hR _ _ (h.2 (q / size) _ (List.getElem?_eq_getElem hql)) _ ?_
  rw [List.mem_iff_getElem?]
  refine ⟨q % size, ?_⟩
  rw [List.getElem?_take, if_pos (Nat.mod_lt _ hs0), List.getElem?_drop, Nat.mul_comm, Nat.div_add_mod, List.getElem?_eq_getElem hq]
/-- An array of n elements of kind d. -/
def arr {α : Type} (n : Nat) (d : Kd α) (hs : 0 < d.sz) : Kd (List α) where
  sz := n * d.sz
  E := d.E
  K := fun w xs cs => xs.length = n ∧ Reps (d.K w) d.sz xs cs
  M := fun w base ok xs cs => xs.length = n ∧ Reps (d.M w base ok) d.sz xs cs
  K_len := fun h => by rw [← h.1]; exact h.2.1
  K_one := fun h => reps_one h.2 hs (fun _ _ hk => d.K_one hk)
  K_below := fun hb h => ⟨h.1, h.2.imp_ (fun _ _ hk => d.K_below hb hk)⟩
  K_of_M := fun h => ⟨h.1, h.2.imp_ (fun _ _ hk => d.K_of_M hk)⟩
  M_mono := fun hok h => ⟨h.1, h.2.imp_ (fun _ _ hk => d.M_mono hok hk)⟩
  M_bound := fun h => ⟨h.1, h.2.imp_ (fun _ _ hk => d.M_bound hk)⟩
  M_move := fun hm h => ⟨h.1, h.2.imp_ (fun _ _ hk => d.M_move hm hk)⟩
  M_lower := fun hb h => ⟨h.1, h.2.imp_ (fun _ _ hk => d.M_lower hb hk)⟩
section
variable {α : Type} {n : Nat} {d : Kd α} {hs : 0 < d.sz} {w : World} {base : Nat} {ok : Nat → Prop} {xs : List α} {cs : List Value}
end
section
variable {α : Type} {n : Nat} {enc : α → Value} {h1 : ∀ x, (enc x).oneCell' = true} {hs : 0 < (scalar enc h1).sz} {w : World} {base : Nat} {ok : Nat → Prop} {xs : List α} {cs : List Value}
end
end Kd
end Go.Proofs.YtgddljealeklkaaDoorW.PrintWords
end
-- WFoot
section
namespace Go.Proofs.YtgddljealeklkaaDoorW.PrintWords
open Go.RowKit
namespace Kd
/-- What a kind reads lies in the blocks: nothing else of the world is looked at. -/
structure Heap {α : Type} (d : Kd α) : Prop where
  K : ∀ {w w1 : World} {x : α} {cs : List Value}, (∀ k, k < w.heap.size → w1.heap[k]? = w.heap[k]?) → d.K w x cs → d.K w1 x cs
theorem cell_heap {w w1 : World} (hb : ∀ k, k < w.heap.size → w1.heap[k]? = w.heap[k]?) {a : Addr} {v : Value} (h : w.cell? a = some v) : w1.cell? a = some v := by
  have := hb a.block (World.block_lt_of_cell? w a h)
  simpa [World.cell?, this] using h
theorem Heap.C {α : Type} {d : Kd α} (hd : Heap d) {w w1 : World} {A : Option Addr} {n : Nat} {xs : List α} (hb : ∀ k, k < w.heap.size → w1.heap[k]? = w.heap[k]?) (h : d.C w A n xs) : d.C w1 A n xs :=
  ⟨h.1, h.2.1, fun hn => by
    obtain ⟨ad, e, hc⟩ := h.2.2 hn
    refine ⟨ad, e, fun j p hj => ?_⟩
    obtain ⟨c, hs, hr, hcell⟩ := hc j p hj
    exact ⟨c, hs, hd.K hb hr, fun i u hu => cell_heap hb (hcell i u hu)⟩⟩
section
variable {α : Type} {d : Kd α} {e base g n c : Nat} {ok : Nat → Prop} {w w0 W : World} {A : Option Addr} {xs : List α}
end
end Kd
end Go.Proofs.YtgddljealeklkaaDoorW.PrintWords
end
-- WKept
section
namespace Go.Proofs.YtgddljealeklkaaDoorW.PrintWords
open Go.RowKit
def Kept (w W : World) (S : Nat → Prop) : Prop := w.heap.size ≤ W.heap.size ∧ ∀ i, i < w.heap.size → ¬ S i → W.heap[i]? = w.heap[i]?
section
variable {w W W2 : World} {S S2 S' : Nat → Prop}
theorem Kept.refl (w : World) (S : Nat → Prop) : Kept w w S := ⟨Nat.le_refl _, fun _ _ _ => rfl⟩
theorem Kept.of_below (h : Below w.heap.size w W) (S : Nat → Prop) : Kept w W S := ⟨h.size, fun i hi _ => h.block i hi⟩
theorem Kept.mono (h : Kept w W S) (hs : ∀ k, S k → S' k) : Kept w W S' := ⟨h.1, fun i hi hn => h.2 i hi (fun hk => hn (hs i hk))⟩
theorem Kept.then_ (h : Kept w W S) (k : Kept W W2 S2) (hs : ∀ k, S2 k → S k ∨ w.heap.size ≤ k) : Kept w W2 S :=
  ⟨Nat.le_trans h.1 k.1, fun i hi hn => (k.2 i (Nat.lt_of_lt_of_le hi h.1) (fun h2 => (hs i h2).elim hn (fun h3 => by omega))).trans (h.2 i hi hn)⟩
theorem Kept.below (h : Kept w W S) (hb : Below W.heap.size W W2) : Kept w W2 S := h.then_ (Kept.of_below hb (fun _ => False)) (fun _ hk => hk.elim)
theorem Kept.alloc (h : Kept w W S) (o : Obj) : Kept w (W.alloc o) S := h.below (below_alloc (Below.refl _ _) o)
theorem Kept.drew (h : Kept w W S) : Kept w W.drew S := h
theorem Kept.drewN (h : Kept w W S) (m : Nat) : Kept w (W.drewN m) S := h
theorem Kept.setCell (h : Kept w W S) {p : Addr} (hp : S p.block ∨ w.heap.size ≤ p.block) (u : Value) : Kept w (W.setCell p u) S :=
  h.then_ (S2 := fun k => k = p.block) ⟨by simp [World.setCell], fun i _ hn => Below.heap_setCell W p u i hn⟩ (fun k hk => by rw [hk]; exact hp)
/-- Beside a state: what was written is new since. -/
theorem Kept.keep {g : Nat} (h : KeepBut w W g none) (k : Kept W W2 S2) (hs : ∀ k, S2 k → w.heap.size ≤ k) : KeepBut w W2 g none :=
  ⟨Nat.le_trans h.1 k.1, fun i hi hg hr => (k.2 i (Nat.lt_of_lt_of_le hi h.1) (fun h2 => by have := hs i h2; omega)).trans (h.2 i hi hg hr)⟩
end
namespace Kd
section
variable {α : Type} {d : Kd α} {e base n c : Nat} {ok oki S S2 : Nat → Prop} {w w0 W W1 W2 : World} {v : Value} {A : Option Addr} {xs : List α} {i : Int} {cs : List Value}
end
end Kd
end Go.Proofs.YtgddljealeklkaaDoorW.PrintWords
end
-- WShare
section
namespace Go.Proofs.YtgddljealeklkaaDoorW.PrintWords
open Go.RowKit
/-- P holds in W and in every world that has W's blocks of ok. -/
def Foot (P : World → Prop) (W : World) (ok : Nat → Prop) : Prop := ∀ W' : World, (∀ k, ok k → k < W.heap.size → W'.heap[k]? = W.heap[k]?) → P W'
theorem heap_lt {W W1 : World} {k : Nat} (h : W1.heap[k]? = W.heap[k]?) (hlt : k < W.heap.size) : k < W1.heap.size := by
  rw [Array.getElem?_eq_getElem hlt] at h
  exact (Array.getElem?_eq_some_iff.1 h).1
namespace Foot
variable {P Q : World → Prop} {W W1 : World} {ok ok' : Nat → Prop}
theorem now (h : Foot P W ok) : P W := h W (fun _ _ _ => rfl)
theorem mono (h : Foot P W ok) (hok : ∀ k, ok k → ok' k) : Foot P W ok' := fun W' hW => h W' (fun k hk hlt => hW k (hok k hk) hlt)
theorem bound (h : Foot P W ok) : Foot P W (fun k => ok k ∧ k < W.heap.size) := fun W' hW => h W' (fun k hk hlt => hW k ⟨hk, hlt⟩ hlt)
theorem step (h : Foot P W ok) (hm : ∀ k, ok k → k < W.heap.size → W1.heap[k]? = W.heap[k]?) : Foot P W1 ok := fun W' hW => h W' (fun k hk hlt => (hW k hk (heap_lt (hm k hk hlt) hlt)).trans (hm k hk hlt))
theorem imp (h : Foot P W ok) (hi : ∀ W', P W' → Q W') : Foot Q W ok := fun W' hW => hi W' (h W' hW)
/-- Moved, and still elder than what is new since W. -/
theorem old (h : Foot P W ok) (hb : Below W.heap.size W W1) : Foot P W1 (fun k => ok k ∧ k < W.heap.size) := (h.bound).step (fun k _ hlt => hb.block k hlt)
end Foot
namespace Kd
/-- A row that is only read: what it leads to lies in ok. -/
def F {α : Type} (d : Kd α) (W : World) (ok : Nat → Prop) (A : Option Addr) (n : Nat) (xs : List α) : Prop := Foot (fun W => d.C W A n xs) W ok
/-- An element's cells: what they lead to lies in ok. -/
def FK {α : Type} (d : Kd α) (W : World) (ok : Nat → Prop) (x : α) (c : List Value) : Prop := Foot (fun W => d.K W x c) W ok
section
variable {α β : Type} {d : Kd α} {e base n n' cc g N : Nat} {ok ok' okp S : Nat → Prop} {w w0 w1 W W1 : World} {A A' : Option Addr} {u v v1 : Value} {xs : List α} {xs' : List β} {d' : Kd β} {x : α} {c : List Value}
theorem F_nil (d : Kd α) (W : World) (ok : Nat → Prop) : F d W ok none ([] : List α).length [] := fun W' _ => C_nil d W'
theorem FK_of_M (h : d.M W base ok x c) : FK d W ok x c := fun _ hW => d.K_of_M (M_step h hW)
end
end Kd
end Go.Proofs.YtgddljealeklkaaDoorW.PrintWords
end
-- WN
section
namespace Go.Proofs.YtgddljealeklkaaDoorW.PrintWords
open Go.RowKit
namespace Kd
/-- The cells one behind the other, element by element. -/
def chunks (sz : Nat) (n : Nat) (inner : List Value) : List (List Value) := (List.range n).map fun j => (inner.drop (j * sz)).take sz
theorem chunks_length (sz n : Nat) (inner : List Value) : (chunks sz n inner).length = n := by simp [chunks]
theorem chunks_at {sz n : Nat} {inner : List Value} {j : Nat} (hj : j < n) : (chunks sz n inner)[j]? = some ((inner.drop (j * sz)).take sz) := by simp [chunks, hj]
theorem chunks_get {sz n : Nat} {inner : List Value} {j : Nat} {c : List Value} (h : (chunks sz n inner)[j]? = some c) : c = (inner.drop (j * sz)).take sz := by
  have hj : j < n := by have := (List.getElem?_eq_some_iff.1 h).1; rwa [chunks_length] at this
  rw [chunks_at hj] at h
  injection h with h
  exact h.symm
theorem reps_raw {α : Type} {Rr : α → List Value → Prop} {sz : Nat} {xs : List α} {inner : List Value} (h : Reps Rr sz xs inner) (hR : ∀ x c, Rr x c → c.length = sz ∧ ∀ u ∈ c, u.oneCell' = true) : Reps (fun x cs => cs = x ∧ cs.length = sz ∧ ∀ u ∈ cs, u.oneCell' = true) sz (chunks sz xs.length inner) inner := by
  refine ⟨by rw [chunks_length]; exact h.1, fun j p hj => ?_⟩
  have hjl : j < xs.length := by have := (List.getElem?_eq_some_iff.1 hj).1; rwa [chunks_length] at this
  have hp := chunks_get hj
  exact ⟨hp.symm, hR _ _ (h.2 j _ (List.getElem?_eq_getElem hjl))⟩
section
variable {α : Type} {d : Kd α} {e base n cc g : Nat} {ok ok' okp S : Nat → Prop} {w w1 W W1 : World} {A : Option Addr} {u v v1 : Value} {xs : List α} {x : α} {c : List Value}
/-- A row of elements (type e) of the call's own; what the elements lead to is only read, and is not this row. -/
def N {α : Type} (d : Kd α) (e : Nat) (w : World) (base : Nat) (ok : Nat → Prop) (v : Value) (xs : List α) : Prop :=
  (∀ k, v.ownBlock = some k → ok k) ∧ ∃ rows : List (List Value), rows.length = xs.length ∧ (raw d.sz).R e w base (fun k => some k = v.ownBlock) v rows ∧ ∀ (j : Nat) (x : α) (c : List Value), xs[j]? = some x → rows[j]? = some c → FK d w (fun k => ok k ∧ some k ≠ v.ownBlock) x c
theorem R_N (h : d.R e w base ok v xs) : N d e w base ok v xs := by
  obtain ⟨h0, inner, ho, hr⟩ := h
  refine ⟨h0, chunks d.sz xs.length inner, chunks_length _ _ _, ⟨fun k hk => hk.symm, inner, by rw [chunks_length]; exact ho, reps_raw hr (fun x c hp => ⟨d.K_len (d.K_of_M hp), d.K_one (d.K_of_M hp)⟩)⟩, fun j x c hx hc => ?_⟩
  rw [chunks_get hc]
  exact FK_of_M (hr.2 j x hx)
theorem N_nil (d : Kd α) (e : Nat) (w : World) (base : Nat) (ok : Nat → Prop) : N d e w base ok (.slice none 0 0) [] := R_N (R_nil _ _ _ _ _)
end
end Kd
end Go.Proofs.YtgddljealeklkaaDoorW.PrintWords
end
-- WMore
section
namespace Go.Proofs.YtgddljealeklkaaDoorW.PrintMore
open Go.RowKit Go.Proofs.YtgddljealeklkaaDoorW.PrintWords
namespace Kd
open Go.Proofs.YtgddljealeklkaaDoorW.PrintWords.Kd
end Kd

namespace Kd
open Go.Proofs.YtgddljealeklkaaDoorW.PrintWords.Kd
section
variable {α : Type} {d : Kd α} {e base g N : Nat} {ok : Nat → Prop} {W w1 : World} {u v : Value} {xs : List α}
end
end Kd
/-- 'max' and 'min' of two whole numbers. -/
theorem max2_int (k k' : IntKind) (x y : Int) : Builtin.max2 (.int k x) (.int k' y) = pure (.int k (if x < y then y else x)) := by simp only [Builtin.max2, gt_iff_lt]
theorem min2_int (k k' : IntKind) (x y : Int) : Builtin.min2 (.int k x) (.int k' y) = pure (.int k (if y < x then y else x)) := by simp only [Builtin.min2]
theorem max_two (ats : Array TypeId) (ty : TypeId) (a b : Value) : Builtin.max_ ats ty #[a, b] = (Builtin.max2 a b >>= fun s => pure s) := by simp only [Builtin.max_, List.foldlM_cons, List.foldlM_nil]
theorem min_two (ats : Array TypeId) (ty : TypeId) (a b : Value) : Builtin.min_ ats ty #[a, b] = (Builtin.min2 a b >>= fun s => pure s) := by simp only [Builtin.min_, List.foldlM_cons, List.foldlM_nil]
theorem max_three (ats : Array TypeId) (ty : TypeId) (a b c : Value) : Builtin.max_ ats ty #[a, b, c] = (Builtin.max2 a b >>= fun s => Builtin.max2 s c >>= fun s => pure s) := by simp only [Builtin.max_, List.foldlM_cons, List.foldlM_nil]
theorem min_three (ats : Array TypeId) (ty : TypeId) (a b c : Value) : Builtin.min_ ats ty #[a, b, c] = (Builtin.min2 a b >>= fun s => Builtin.min2 s c >>= fun s => pure s) := by simp only [Builtin.min_, List.foldlM_cons, List.foldlM_nil]
theorem max_four (ats : Array TypeId) (ty : TypeId) (a b c d : Value) : Builtin.max_ ats ty #[a, b, c, d] = (Builtin.max2 a b >>= fun s => Builtin.max2 s c >>= fun s => Builtin.max2 s d >>= fun s => pure s) := by simp only [Builtin.max_, List.foldlM_cons, List.foldlM_nil]
theorem min_four (ats : Array TypeId) (ty : TypeId) (a b c d : Value) : Builtin.min_ ats ty #[a, b, c, d] = (Builtin.min2 a b >>= fun s => Builtin.min2 s c >>= fun s => Builtin.min2 s d >>= fun s => pure s) := by simp only [Builtin.min_, List.foldlM_cons, List.foldlM_nil]
end Go.Proofs.YtgddljealeklkaaDoorW.PrintMore
namespace Go.Proofs.YtgddljealeklkaaDoorW.PrintWords
open Go.RowKit
section
variable {P : Program} {ops : Array Oper} {rest : List Oper} {o : Oper} {a : Act} {Q : Exit → Act → World → Prop} {W : World}
/-- The operation is a call of this function (a cheap look ahead of a dear step). -/
theorem gate_callee {f : FuncId} {as_ : Array Operand} {ts : Array TypeId} (_ho : o.op = .call { callee := .value (.func f), args := as_, argTypes := ts }) (h : wpList P ops Q (o :: rest) a W) : wpList P ops Q (o :: rest) a W := h
/-- The operation is a builtin over these places. -/
theorem gate_builtin {b : Builtin} {xs : Array Operand} {ts : Array TypeId} (_ho : o.op = .call { callee := .builtin b, args := xs, argTypes := ts }) (h : wpList P ops Q (o :: rest) a W) : wpList P ops Q (o :: rest) a W := h
end
/-- The greater of two whole numbers, as Go's max tells it. -/
def mx (a b : Int) : Int := if a < b then b else a
/-- A shift to the left, as Go tells it: a count beyond the width leaves nothing. -/
def shl (k : IntKind) (x y : Int) : Int := k.wrap (x * 2 ^ min y.toNat k.bits)
/-- A shift to the right: a count beyond the width leaves the sign. -/
def shr (k : IntKind) (x y : Int) : Int := x / 2 ^ min y.toNat k.bits
theorem shl_small {k : IntKind} {x y j : Int} (h : shl k x y = j) (hy : y ≤ k.bits) : k.wrap (x * 2 ^ y.toNat) = j := by rw [← h]; unfold shl; rw [Nat.min_eq_left (by omega)]
theorem shr_small {k : IntKind} {x y j : Int} (h : shr k x y = j) (hy : y ≤ k.bits) : x / 2 ^ y.toNat = j := by rw [← h]; unfold shr; rw [Nat.min_eq_left (by omega)]
namespace Kd
section
variable {α : Type} {d : Kd α} {e base : Nat} {ok : Nat → Prop} {W w1 : World} {v : Value} {xs : List α}
end
section
variable {α : Type} {d : Kd α} {e base g n cap : Nat} {ok oki okp : Nat → Prop} {W : World} {xs : List α} {i : Int} {c : List Value}
end
section
variable {α : Type} {d : Kd α} {e base b b' g N : Nat} {ok ok1 : Nat → Prop} {W W2 w1 : World} {u v : Value} {xs ys : List α} {S : Nat → Prop}
end
end Kd
end Go.Proofs.YtgddljealeklkaaDoorW.PrintWords
namespace Go.Proofs.YtgddljealeklkaaDoorW.PrintWords
open Go.RowKit
namespace Kd
/-- A row that is only read, told by its value: its form, its length, what it leads to (in ok). e and base say nothing; they make it as the others are. -/
def V {α : Type} (d : Kd α) (_e : Nat) (W : World) (_base : Nat) (ok : Nat → Prop) (v : Value) (xs : List α) : Prop := ∃ A c, v = .slice A xs.length c ∧ xs.length ≤ c ∧ F d W ok A xs.length xs
section
variable {α β : Type} {d : Kd α} {e base base' n m c g N' lo hi : Nat} {ok ok' S : Nat → Prop} {w W w1 : World} {A : Option Addr} {ad : Addr} {u v v1 : Value} {xs : List α}
theorem V_nil (d : Kd α) (e : Nat) (W : World) (base : Nat) (ok : Nat → Prop) : V d e W base ok (.slice none 0 0) [] := ⟨none, 0, rfl, Nat.le_refl _, F_nil d W ok⟩
end
end Kd
end Go.Proofs.YtgddljealeklkaaDoorW.PrintWords
end
-- Qa
section
namespace Go.Proofs.YtgddljealeklkaaDoorQ
open Go Go.RowKit

/-- A word as a number. -/
def iv (v : BitVec 64) : Int := (v.toNat : Int)
theorem iv_inj {a b : BitVec 64} : iv a = iv b ↔ a = b := by
  unfold iv
  rw [Int.ofNat_inj]
  exact ⟨BitVec.eq_of_toNat_eq, fun h => by rw [h]⟩
theorem ofInt_iv (v : BitVec 64) : BitVec.ofInt 64 (iv v) = v := by
  unfold iv
  rw [BitVec.ofInt_natCast, BitVec.ofNat_toNat, BitVec.setWidth_eq]
theorem wrap_nat (n : Nat) : IntKind.u64.wrap (n : Int) = ((n % 18446744073709551616 : Nat) : Int) := by
  rw [IntKind.wrap_u64]
  omega
theorem bits_and (a b : BitVec 64) : bits .and .u64 (iv a) (iv b) = iv (a &&& b) := by
  show IntKind.u64.wrap ((BitVec.ofInt 64 (iv a) &&& BitVec.ofInt 64 (iv b)).toNat : Int) = _
  rw [ofInt_iv, ofInt_iv, wrap_nat, Nat.mod_eq_of_lt (BitVec.isLt _)]
  rfl
theorem bits_or (a b : BitVec 64) : bits .or .u64 (iv a) (iv b) = iv (a ||| b) := by
  show IntKind.u64.wrap ((BitVec.ofInt 64 (iv a) ||| BitVec.ofInt 64 (iv b)).toNat : Int) = _
  rw [ofInt_iv, ofInt_iv, wrap_nat, Nat.mod_eq_of_lt (BitVec.isLt _)]
  rfl
theorem bits_xor (a b : BitVec 64) : bits .xor .u64 (iv a) (iv b) = iv (a ^^^ b) := by
  show IntKind.u64.wrap ((BitVec.ofInt 64 (iv a) ^^^ BitVec.ofInt 64 (iv b)).toNat : Int) = _
  rw [ofInt_iv, ofInt_iv, wrap_nat, Nat.mod_eq_of_lt (BitVec.isLt _)]
  rfl
theorem bits_andNot (a b : BitVec 64) : bits .andNot .u64 (iv a) (iv b) = iv (a &&& ~~~b) := by
  show IntKind.u64.wrap ((BitVec.ofInt 64 (iv a) &&& ~~~(BitVec.ofInt 64 (iv b))).toNat : Int) = _
  rw [ofInt_iv, ofInt_iv, wrap_nat, Nat.mod_eq_of_lt (BitVec.isLt _)]
  rfl
theorem wrap_sub (a b : BitVec 64) : IntKind.u64.wrap (iv a - iv b) = iv (a - b) := by
  have := b.isLt
  rw [IntKind.wrap_u64]
  unfold iv
  rw [BitVec.toNat_sub]
  omega
theorem wrap_shl (a : BitVec 64) (n : Nat) : IntKind.u64.wrap (iv a * 2 ^ n) = iv (a <<< n) := by
  unfold iv
  have e : ((a.toNat : Int) * 2 ^ n) = ((a.toNat * 2 ^ n : Nat) : Int) := by rw [Int.natCast_mul, Int.natCast_pow]; rfl
  rw [e, wrap_nat, BitVec.toNat_shiftLeft, Nat.shiftLeft_eq]
theorem shr_iv (a : BitVec 64) (n : Nat) : iv a / 2 ^ n = iv (a >>> n) := by
  unfold iv
  have e : (2 : Int) ^ n = ((2 ^ n : Nat) : Int) := by rw [Int.natCast_pow]; rfl
  rw [BitVec.toNat_ushiftRight, Nat.shiftRight_eq_div_pow, e, Int.natCast_ediv]
/-- Every number of the kind is a word. -/
theorem iv_of {x : Int} (h0 : 0 ≤ x) (h1 : x < 18446744073709551616) : ∃ v, x = iv v := by
  refine ⟨BitVec.ofNat 64 x.toNat, ?_⟩
  unfold iv
  rw [BitVec.toNat_ofNat]
  omega

/-- The number of the bits that say yes, below a bound. -/
def wordN (p : Nat → Bool) : Nat → Nat
  | 0 => 0
  | n + 1 => wordN p n + if p n then 2 ^ n else 0
theorem wordN_lt (p : Nat → Bool) : ∀ n, wordN p n < 2 ^ n
  | 0 => by simp [wordN]
  | n + 1 => by
    have := wordN_lt p n
    unfold wordN
    rw [Nat.pow_succ]
    split <;> omega
theorem wordN_bit (p : Nat → Bool) (i : Nat) : ∀ n, (wordN p n).testBit i = (decide (i < n) && p i)
  | 0 => by simp [wordN]
  | n + 1 => by
    have hl := wordN_lt p n
    have ih := wordN_bit p i n
    unfold wordN
    by_cases hp : p n = true
    · rw [if_pos hp, Nat.add_comm]
      by_cases hi : i = n
      · subst hi
        rw [Nat.testBit_two_pow_add_eq, ih]
        simp [hp]
      · by_cases hlt : i < n
        · rw [Nat.testBit_two_pow_add_gt hlt, ih]
          simp [hlt, show i < n + 1 by omega]
        · rw [Nat.testBit_lt_two_pow (Nat.lt_of_lt_of_le (show 2 ^ n + wordN p n < 2 ^ (n + 1) by rw [Nat.pow_succ]; omega) (Nat.pow_le_pow_right (by omega) (by omega)))]
          simp [show ¬ i < n + 1 by omega]
    · rw [if_neg hp, Nat.add_zero, ih]
      by_cases hi : i = n
      · subst hi
        simp [hp]
      · have : (i < n + 1) ↔ (i < n) := by omega
        simp [this]
/-- The word of a test. -/
def word (p : Nat → Bool) : BitVec 64 := BitVec.ofNat 64 (wordN p 64)
theorem word_bit (p : Nat → Bool) (i : Nat) : (word p).getLsbD i = (decide (i < 64) && p i) := by
  unfold word
  rw [BitVec.getLsbD_ofNat, wordN_bit]
  by_cases h : i < 64 <;> simp [h]
theorem word_ext {p q : Nat → Bool} (h : ∀ i, i < 64 → p i = q i) : word p = word q := by
  apply BitVec.eq_of_getLsbD_eq
  intro i hi
  rw [word_bit, word_bit, h i hi]
theorem eq_word {v : BitVec 64} {p : Nat → Bool} (h : ∀ i, i < 64 → v.getLsbD i = p i) : v = word p := by
  apply BitVec.eq_of_getLsbD_eq
  intro i hi
  rw [word_bit, h i hi]
  simp [hi]

theorem iv_word (p : Nat → Bool) : iv (word p) = ((wordN p 64 : Nat) : Int) := by
  unfold iv word
  rw [BitVec.toNat_ofNat, Nat.mod_eq_of_lt (wordN_lt p 64)]
theorem wordN_add (p : Nat → Bool) (m : Nat) : ∀ n, wordN p (m + n) = wordN p m + 2 ^ m * wordN (fun j => p (m + j)) n
  | 0 => by simp [wordN]
  | n + 1 => by
    have e1 : wordN p (m + (n + 1)) = wordN p (m + n) + if p (m + n) then 2 ^ (m + n) else 0 := rfl
    have e2 : wordN (fun j => p (m + j)) (n + 1) = wordN (fun j => p (m + j)) n + if p (m + n) then 2 ^ n else 0 := rfl
    rw [e1, e2, wordN_add p m n, Nat.mul_add, Nat.add_assoc]
    congr 2
    by_cases h : p (m + n) = true
    · rw [if_pos h, if_pos h, Nat.pow_add]
    · rw [if_neg h, if_neg h, Nat.mul_zero]
/-- Eight bits more. -/
theorem eight_step (p : Nat → Bool) {i : Nat} (hi : i < 8) :
    bits .or .u64 ((wordN p (8 * i) : Nat) : Int) (IntKind.u64.wrap (IntKind.u64.wrap ((wordN (fun j => p (8 * i + j)) 8 : Nat) : Int) * 2 ^ (8 * i))) = ((wordN p (8 * (i + 1)) : Nat) : Int) := by
  rw [show IntKind.u64.wrap ((wordN (fun j => p (8 * i + j)) 8 : Nat) : Int) = ((wordN (fun j => p (8 * i + j)) 8 : Nat) : Int) by
    have := wordN_lt (fun j => p (8 * i + j)) 8
    rw [wrap_nat, Nat.mod_eq_of_lt (by omega)]]
  have h1 := wordN_lt p (8 * i)
  have h2 := wordN_lt (fun j => p (8 * i + j)) 8
  have h3 := wordN_lt p (8 * (i + 1))
  have hp1 : 2 ^ (8 * i) ≤ 2 ^ 64 := Nat.pow_le_pow_right (by omega) (by omega)
  have hp3 : 2 ^ (8 * (i + 1)) ≤ 2 ^ 64 := Nat.pow_le_pow_right (by omega) (by omega)
  have hs : wordN p (8 * (i + 1)) = wordN p (8 * i) + 2 ^ (8 * i) * wordN (fun j => p (8 * i + j)) 8 := wordN_add p (8 * i) 8
  rw [hs] at h3 ⊢
  generalize wordN p (8 * i) = a at *
  generalize wordN (fun j => p (8 * i + j)) 8 = b at *
  have e : ((b : Nat) : Int) * 2 ^ (8 * i) = ((2 ^ (8 * i) * b : Nat) : Int) := by rw [Int.natCast_mul, Int.natCast_pow, Int.mul_comm]; rfl
  rw [e, wrap_nat, Nat.mod_eq_of_lt (by omega), bits_or_u64_nat _ _ (by omega) (by omega), Nat.or_comm, ← Nat.two_pow_add_eq_or_of_lt h1 b, Nat.add_comm]
/-- A row of so many bits, as words. -/
def nwords (n : Nat) : Nat := (n + 63) / 64
theorem nwords_room {n : Nat} (h : n ≤ 281474976702464) : nwords n * 8 ≤ 140737488355328 := by unfold nwords; omega
def wordAt (n : Nat) (p : Nat → Bool) (k : Nat) : BitVec 64 := word fun i => decide (64 * k + i < n) && p (64 * k + i)
def wordsOf (n : Nat) (p : Nat → Bool) : List Int := (List.range (nwords n)).map fun k => iv (wordAt n p k)
theorem wordsOf_length (n : Nat) (p : Nat → Bool) : (wordsOf n p).length = nwords n := by simp [wordsOf]
theorem wordsOf_get (n : Nat) (p : Nat → Bool) (k : Nat) (h : k < nwords n) : (wordsOf n p).getD k 0 = iv (wordAt n p k) := by
  rw [List.getD_eq_getElem?_getD, wordsOf, List.getElem?_map, List.getElem?_range h]
  rfl
theorem wordsOf_ext {n : Nat} {p q : Nat → Bool} (h : ∀ i, i < n → p i = q i) : wordsOf n p = wordsOf n q := by
  have e : ∀ k, wordAt n p k = wordAt n q k := fun k => word_ext fun i _ => by
    by_cases hi : 64 * k + i < n
    · rw [h _ hi]
    · rw [decide_eq_false hi]
      rfl
  exact List.map_congr_left fun k _ => by rw [e k]

/-- Bytes as a word, the first one lowest. -/
def loadN (f : Nat → Int) : Nat → Nat
  | 0 => 0
  | n + 1 => loadN f n + (f n).toNat * 256 ^ n
theorem loadN_lt (f : Nat → Int) (hf : ∀ i, 0 ≤ f i ∧ f i < 256) : ∀ n, loadN f n < 256 ^ n
  | 0 => by simp [loadN]
  | n + 1 => by
    have := loadN_lt f hf n
    have h := hf n
    have hb : (f n).toNat ≤ 255 := by omega
    have := Nat.mul_le_mul_right (256 ^ n) hb
    unfold loadN
    rw [Nat.pow_succ]
    omega
theorem load_step (f : Nat → Int) (hf : ∀ i, 0 ≤ f i ∧ f i < 256) {i : Nat} (hi : i < 8) :
    bits .or .u64 ((loadN f i : Nat) : Int) (IntKind.u64.wrap (IntKind.u64.wrap (f i) * 2 ^ (8 * i))) = ((loadN f (i + 1) : Nat) : Int) := by
  have h := hf i
  have hl := loadN_lt f hf i
  have e256 : ∀ k, 256 ^ k = 2 ^ (8 * k) := fun k => by rw [show (256 : Nat) = 2 ^ 8 from rfl, ← Nat.pow_mul]
  have hp : 256 ^ (i + 1) ≤ 18446744073709551616 := Nat.le_trans (Nat.pow_le_pow_right (by omega) (show i + 1 ≤ 8 by omega)) (by decide)
  have hl' := loadN_lt f hf (i + 1)
  obtain ⟨x, hx⟩ : ∃ x : Nat, f i = x := ⟨(f i).toNat, by omega⟩
  have e1 : IntKind.u64.wrap (f i) = ((x : Nat) : Int) := by rw [hx, wrap_nat, Nat.mod_eq_of_lt (by omega)]
  have ex : (f i).toNat = x := by omega
  have hs : loadN f (i + 1) = loadN f i + x * 256 ^ i := by rw [← ex]; rfl
  have e2 : IntKind.u64.wrap (((x : Nat) : Int) * 2 ^ (8 * i)) = ((x * 256 ^ i : Nat) : Int) := by
    have : ((x : Nat) : Int) * 2 ^ (8 * i) = ((x * 256 ^ i : Nat) : Int) := by rw [e256]; norm_cast
    rw [this, wrap_nat, Nat.mod_eq_of_lt (by rw [hs] at hl'; omega)]
  rw [e1, e2, bits_or_u64_nat _ _ (by rw [Nat.pow_succ] at hp; omega) (by rw [hs] at hl'; omega), hs]
  norm_cast
  rw [e256] at hl ⊢
  rw [Nat.or_comm, ← Nat.mul_comm, ← Nat.two_pow_add_eq_or_of_lt hl x, Nat.add_comm]
theorem finRange_take (n k : Nat) (h : k < n) : (List.finRange n).take (k + 1) = (List.finRange n).take k ++ [⟨k, h⟩] := by
  rw [List.take_succ_eq_append_getElem (by rw [List.length_finRange]; exact h)]
  simp
end Go.Proofs.YtgddljealeklkaaDoorQ
end
-- Ma
section
namespace Go.Proofs.YtgddljealeklkaaDoorM
open Go Go.RowKit Go.Lib Go.Proofs.YtgddljealeklkaaDoorW.PrintWords Go.Proofs.YtgddljealeklkaaDoorW.PrintLast Go.Proofs.YtgddljealeklkaaDoorW.PrintMore

/-- A block of cells, hidden from the walk. -/
structure Blk (W : World) (g : Nat) (cs : Array Value) (t : Nat) : Prop where mk :: (out : W.heap[g]? = some (.cells cs t (0, 0)))
/-- Nothing that lay in w has turned in W. -/
structure BelowH (w W : World) : Prop where mk :: (out : Below w.heap.size w W)
theorem BelowH.refl (w : World) : BelowH w w := ⟨Below.refl _ _⟩
theorem BelowH.step {w W W' : World} (h : BelowH w W) (k : Below W.heap.size W W') : BelowH w W' := ⟨below_step h.out k⟩
theorem BelowH.set {w W : World} (h : BelowH w W) {g : Nat} (hg : w.heap.size ≤ g) (i : Nat) (v : Value) : BelowH w (W.setCell ⟨g, i, none⟩ v) := ⟨below_set h.out hg⟩
theorem BelowH.row {w W : World} (h : BelowH w W) {g : Nat} (hg : w.heap.size ≤ g) (cs : Array Value) : BelowH w (W.setRow g cs) := ⟨below_setRow h.out hg cs⟩
theorem BelowH.drew {w W : World} (h : BelowH w W) : BelowH w W.drew := ⟨below_drew h.out⟩
theorem BelowH.drewN {w W : World} (h : BelowH w W) (n : Nat) : BelowH w (W.drewN n) := ⟨pw_below_drewN h.out n⟩
theorem BelowH.le {w W : World} (h : BelowH w W) : w.heap.size ≤ W.heap.size := h.out.size
theorem Blk.cell {W : World} {g : Nat} {cs : Array Value} {t : Nat} (h : Blk W g cs t) {i : Nat} {v : Value} (hv : cs[i]? = some v) : W.cell? ⟨g, i, none⟩ = some v := (blk_cell h.out i).trans hv
theorem Blk.frozen {W : World} {g : Nat} {cs : Array Value} {t : Nat} (h : Blk W g cs t) (i : Nat) : W.frozen? ⟨g, i, none⟩ = false := blk_frozen h.out i
theorem Blk.set {W : World} {g : Nat} {cs : Array Value} {t : Nat} (h : Blk W g cs t) (i : Nat) (v : Value) : Blk (W.setCell ⟨g, i, none⟩ v) g (cs.setIfInBounds i v) t := ⟨blk_set h.out i v⟩
theorem Blk.far {W : World} {g : Nat} {cs : Array Value} {t : Nat} (h : Blk W g cs t) {g' : Nat} (hne : g ≠ g') (i : Nat) (v : Value) : Blk (W.setCell ⟨g', i, none⟩ v) g cs t := ⟨blk_far h.out hne v⟩
theorem Blk.below {W W' : World} {g : Nat} {cs : Array Value} {t : Nat} (h : Blk W g cs t) (hb : Below W.heap.size W W') : Blk W' g cs t := ⟨blk_below h.out hb⟩
theorem Blk.drew {W : World} {g : Nat} {cs : Array Value} {t : Nat} (h : Blk W g cs t) : Blk W.drew g cs t := ⟨h.out⟩
theorem Blk.drewN {W : World} {g : Nat} {cs : Array Value} {t : Nat} (h : Blk W g cs t) (n : Nat) : Blk (W.drewN n) g cs t := ⟨h.out⟩
theorem Blk.lt {W : World} {g : Nat} {cs : Array Value} {t : Nat} (h : Blk W g cs t) : g < W.heap.size := blk_lt h.out
theorem Blk.eqA {W : World} {g : Nat} {cs cs' : Array Value} {t : Nat} (h : Blk W g cs t) (e : cs = cs') : Blk W g cs' t := e ▸ h
theorem Blk.row {W : World} {g : Nat} {cs : Array Value} {t : Nat} (h : Blk W g cs t) (cs' : Array Value) : Blk (W.setRow g cs') g cs' t := ⟨setRow_heap W g cs cs' t (0, 0) h.out⟩
/-- An array of 64 bytes. -/
def blkA (f : Nat → Int) : Array Value := Array.ofFn (n := 64) fun i => .int .u8 (f i)
theorem blkA_size (f : Nat → Int) : (blkA f).size = 64 := by simp [blkA]
theorem blkA_get (f : Nat → Int) {i : Nat} (h : i < 64) : (blkA f)[i]? = some (.int .u8 (f i)) := by
  simp [blkA, h]
theorem blkA_ext {cs : Array Value} {f : Nat → Int} (hs : cs.size = 64) (h : ∀ i, i < 64 → cs[i]? = some (.int .u8 (f i))) : cs = blkA f := by
  apply Array.ext_getElem?
  intro i
  by_cases hi : i < 64
  · rw [h i hi, blkA_get f hi]
  · rw [Array.getElem?_eq_none (by omega), Array.getElem?_eq_none (by rw [blkA_size]; omega)]
theorem blkA_congr {f f' : Nat → Int} (h : ∀ i, i < 64 → f i = f' i) : blkA f = blkA f' := blkA_ext (blkA_size f) fun i hi => by rw [blkA_get f hi, h i hi]
theorem blkA_set {f f' : Nat → Int} {i : Nat} {v : Int} (hi : i < 64) (h1 : f' i = v) (h2 : ∀ j, j ≠ i → f j = f' j) : (blkA f).setIfInBounds i (.int .u8 v) = blkA f' := by
  apply blkA_ext
  · rw [Array.size_setIfInBounds, blkA_size]
  · intro j hj
    by_cases e : j = i
    · subst e
      rw [Array.getElem?_setIfInBounds_self_of_lt (by rw [blkA_size]; exact hj), h1]
    · rw [Array.getElem?_setIfInBounds_ne (Ne.symm e), blkA_get f hj, h2 j e]
theorem blkA_zero : (Array.replicate 64 (.int .u8 0) : Array Value) = blkA fun _ => 0 := blkA_ext (by simp) fun i hi => by simp [hi]
theorem blkA_one (f : Nat → Int) : (blkA f).all (·.oneCell') = true := by
  rw [Array.all_eq_true]
  intro i hi
  rw [blkA_size] at hi
  have := blkA_get f hi
  rw [Array.getElem?_eq_getElem (by rw [blkA_size]; exact hi)] at this
  rw [Option.some.inj this]
  rfl
theorem bt_extract (s : ByteArray) (a b j : Nat) (hj : a + j < b) (hb : b ≤ s.size) : bt (s.extract a b) (j : Int) = bt s ((a + j : Nat) : Int) := by
  unfold bt
  have h1 : (j : Int).toNat < (s.extract a b).size := by rw [ByteArray.size_extract]; omega
  have h2 : ((a + j : Nat) : Int).toNat < s.size := by omega
  rw [dif_pos h1, dif_pos h2]
  simp only [Int.toNat_natCast]
  rw [ByteArray.getElem_extract]
/-- An array of n bytes. -/
def arrA (n : Nat) (f : Nat → Int) : Array Value := Array.ofFn (n := n) fun i => .int .u8 (f i)
theorem arrA_size (n : Nat) (f : Nat → Int) : (arrA n f).size = n := by simp [arrA]
theorem arrA_get (n : Nat) (f : Nat → Int) {i : Nat} (h : i < n) : (arrA n f)[i]? = some (.int .u8 (f i)) := by
  simp [arrA, h]
/-- A row of results of which the first one lies in memory, an array. -/
theorem results_row_tmp {P : Program} {fn : Func} {p u : Tmp} {ty : TypeId} (h : fn.results = #[.cell p ty, .tmp u]) (tmps : Array Value) (w : World) (g : Nat) (t : TypeId) (cs : Array Value) (d : TypeDesc)
    (hp : tmps.getD p undef = .pointer (some ⟨g, 0, none⟩)) (hg : Blk w g cs t)
    (hu : P.underlying ty = some d) (hd : (match d with | .struct _ | .array _ _ => true | _ => false) = true) (hi : (P.info? ty).map (·.size) = some cs.size) :
    (results fn tmps).run P w = .ok (.tuple #[.agg cs, tmps.getD u undef]) w := by
  rw [results_cell_tmp h, hp]
  have h1 := run_loadVar_row (P := P) w g t ty cs (0, 0) d hg.out hu hd hi
  simp [asAddr, h1, Result.andThen]
section
variable {P : Program} {ops : Array Oper} {rest : List Oper} {o : Oper} {a : Act} {Q : Exit → Act → World → Prop} {W : World}
/-- A new block, in letters. -/
theorem ev_alloc {w : World} (HB : BelowH w W) (hgd : o.guard = none) (cs : Array Value) (t : TypeId)
    (hrun : (execOp a.eval o).run P W = .ok (.value (.pointer (some ⟨W.heap.size, 0, none⟩))) (W.alloc (.cells cs t (0, 0))))
    (h : ∀ g w1, Aside0 (W.heap.size ≤ g) → Aside0 (w.heap.size ≤ g) → Blk w1 g cs t → BelowH w w1 → Aside0 (Below W.heap.size W w1) → wpList P ops Q rest (a.put o.dst (.pointer (some ⟨g, 0, none⟩))) w1) : wpList P ops Q (o :: rest) a W :=
  Kd.event_run hgd hrun (h _ _ ⟨Nat.le_refl _⟩ ⟨HB.le⟩ ⟨blk_new W _⟩ (HB.step (below_alloc (Below.refl _ _) _)) ⟨below_alloc (Below.refl _ _) _⟩)
/-- A whole array out of its block. -/
theorem ev_load {g : Nat} {cs : Array Value} {t : TypeId} (B : Blk W g cs t) (hgd : o.guard = none) (ty : TypeId) (x : Operand) (ho : o.op = .load ty x) (hx : a.eval x = .pointer (some ⟨g, 0, none⟩))
    {n : Nat} {e : TypeId} (hu : P.underlying ty = some (.array n e)) (hi : (P.info? ty).map (·.size) = some cs.size)
    (h : wpList P ops Q rest (a.put o.dst (.agg cs)) W) : wpList P ops Q (o :: rest) a W :=
  wpList_load_row hgd ty x ho g hx t cs (0, 0) _ B.out hu rfl hi h
/-- A whole array into its block. -/
theorem ev_store {w : World} (HB : BelowH w W) {g : Nat} {old cs : Array Value} {t : TypeId} (B : Blk W g old t) (GE : Aside0 (w.heap.size ≤ g)) (hgd : o.guard = none) (ty : TypeId) (x y : Operand) (ho : o.op = .store ty x y) (hx : a.eval x = .pointer (some ⟨g, 0, none⟩)) (hy : a.eval y = .agg cs)
    (hi : (P.info? ty).map (·.size) = some cs.size) (hold : old.size = cs.size) (h1 : cs.all (·.oneCell') = true)
    (h : ∀ w1, Blk w1 g cs t → BelowH w w1 → Aside0 (W.heap.size ≤ w1.heap.size ∧ ∀ k, k ≠ g → w1.heap[k]? = W.heap[k]?) → wpList P ops Q rest (a.put o.dst undef) w1) : wpList P ops Q (o :: rest) a W :=
  wpList_store_row hgd ty x y ho g cs hx hy t old B.out hi hold h1 (h _ (B.row cs) (HB.row GE.out cs) ⟨Nat.le_of_eq (setRow_size W g cs).symm, fun k hk => setRow_other W g k cs hk⟩)
/-- '[]byte(s)': a new block, in letters. -/
theorem ev_bytes {w : World} (HB : BelowH w W) (hgd : o.guard = none) (src dst : TypeId) (x : Operand) (ho : o.op = .convert src dst x) (s : ByteArray) (n : Nat) (hn : s.size = n) (hx : a.eval x = .string s) {u : TypeDesc} {e : TypeId}
    (hs : P.underlying src = some u) (hd : P.underlying dst = some (.slice e)) (he : P.underlying e = some (.int .u8))
    (h : ∀ g cap w1, Aside0 (W.heap.size ≤ g) → BelowH w w1 → Aside0 (Below W.heap.size W w1) → Aside0 (∀ j, j < n → w1.cell? ⟨g, j, none⟩ = some (.int .u8 (bt s (j : Int)))) → wpList P ops Q rest (a.put o.dst (.slice (some ⟨g, 0, none⟩) n cap)) w1) :
    wpList P ops Q (o :: rest) a W := by
  have hb : Below W.heap.size W (Lib.bytesWorld W e s) := ⟨rfl, rfl, rfl, by rw [Lib.bytesWorld_size]; omega, fun i hi => Lib.bytesWorld_at_old W e s i hi⟩
  subst hn
  refine Kd.event_run hgd (v := .slice (some ⟨W.heap.size, 0, none⟩) s.size (grownCap W s.size 0 e)) (w1 := Lib.bytesWorld W e s) ?_ (h _ _ _ ⟨Nat.le_refl _⟩ (HB.step hb) ⟨hb⟩ ⟨fun j hj => ?_⟩)
  · unfold execOp
    simp [ho, hx, Lib.run_convert_string_bytes (P := P) W src dst e s hs hd he, Result.andThen]
  · rw [Lib.bytesWorld_cell W e s j hj]
    unfold bt
    rw [dif_pos (by simpa using hj)]
    simp only [Int.toNat_natCast]
    congr 2
    rw [List.getD_eq_getElem?_getD]
    have : s.data.toList[j]? = some s[j] := by
      rw [Array.getElem?_toList]
      exact Array.getElem?_eq_getElem hj
    rw [this]
    rfl
/-- A whole array out of the middle of a block. -/
theorem ev_load_mid (hgd : o.guard = none) (ty : TypeId) (x : Operand) (ho : o.op = .load ty x) (g q : Nat) (hx : a.eval x = .pointer (some ⟨g, q, none⟩)) (cs : Array Value)
    (hc : ∀ j, j < cs.size → W.cell? ⟨g, q + j, none⟩ = cs[j]?) {n : Nat} {e : TypeId} (hu : P.underlying ty = some (.array n e)) (hi : (P.info? ty).map (·.size) = some cs.size)
    (h : wpList P ops Q rest (a.put o.dst (.agg cs)) W) : wpList P ops Q (o :: rest) a W := by
  refine wpList_load_mid hgd ty x ho g q hx cs.toList _ (fun j v hv => ?_) hu rfl (by simpa using hi) (by simpa using h)
  have hj : j < cs.size := by
    have := (List.getElem?_eq_some_iff.1 hv).1
    simpa using this
  rw [hc j hj, ← hv, Array.getElem?_toList]
/-- '[n]T(xs)': the array's place. -/
theorem ev_arrayAt (hgd : o.guard = none) (arr : TypeId) (x : Operand) (ho : o.op = .sliceToArrayPointer arr x) (p : Addr) (len cap n : Nat) (e : TypeId) (hx : a.eval x = .slice (some p) len cap) (hu : P.underlying arr = some (.array n e)) (hl : n ≤ len)
    (h : wpList P ops Q rest (a.put o.dst (.pointer (some p))) W) : wpList P ops Q (o :: rest) a W := by
  refine Kd.event_run hgd (v := .pointer (some p)) (w1 := W) ?_ h
  unfold execOp
  simp only [ho, hx]
  have : (Instr.arrayAt arr (.slice (some p) len cap)).run P W = .ok (.pointer (some p)) W := by
    unfold Instr.arrayAt
    rw [Sem.run_bind, run_underlying hu W]
    simp [Result.andThen, Nat.not_lt.2 hl]
  simp [this, Result.andThen]
/-- 'copy(b[:], s)' of a text that fits. -/
theorem ev_copy64 {w : World} (HB : BelowH w W) {g : Nat} {f : Nat → Int} {t : TypeId} (B : Blk W g (blkA f) t) (GE : Aside0 (w.heap.size ≤ g)) (hgd : o.guard = none) (d x : Operand) (dT sT e : TypeId)
    (ho : o.op = .call { callee := .builtin .copy, args := #[d, x], argTypes := #[dT, sT] }) (s : ByteArray) (m : Nat) (hm : s.size = m) (hle : m ≤ 64) (hd : a.eval d = .slice (some ⟨g, 0, none⟩) 64 64) (hx : a.eval x = .string s)
    (hu : P.underlying dT = some (.slice e)) (hs : (P.info? e).map (·.size) = some 1)
    (h : ∀ w1, Blk w1 g (blkA fun j => if j < m then bt s (j : Int) else f j) t → BelowH w w1 → Aside0 (W.heap.size ≤ w1.heap.size ∧ ∀ k, k ≠ g → w1.heap[k]? = W.heap[k]?) → wpList P ops Q rest (a.put o.dst (.int .i64 (m : Int))) w1) :
    wpList P ops Q (o :: rest) a W := by
  subst hm
  have hrun := run_copy_row_string (P := P) W dT sT o.type e g 0 64 64 s (blkA f) t hu hs B.out hle (by rw [blkA_size]; omega)
  have hlen : s.data.toList.length = s.size := by rw [Array.length_toList]; rfl
  have hcs : ((blkA f).toList.take 0 ++ byteCells s.data.toList ++ (blkA f).toList.drop (0 + s.size)).toArray = blkA fun j => if j < s.size then bt s (j : Int) else f j := by
    apply blkA_ext
    · simp [byteCells_length, blkA_size, hlen]
      omega
    · intro j hj
      rw [List.getElem?_toArray]
      simp only [List.take_zero, List.nil_append, Nat.zero_add]
      by_cases h : j < s.size
      · rw [List.getElem?_append_left (by rw [byteCells_length, hlen]; exact h), if_pos h]
        unfold byteCells
        rw [List.getElem?_map]
        have : s.data.toList[j]? = some s[j] := by
          rw [Array.getElem?_toList]
          exact Array.getElem?_eq_getElem h
        rw [this]
        unfold bt
        rw [dif_pos (by simpa using h)]
        rfl
      · rw [List.getElem?_append_right (by rw [byteCells_length, hlen]; omega), if_neg h, List.getElem?_drop, byteCells_length, hlen, Array.getElem?_toList, show s.size + (j - s.size) = j by omega, blkA_get f hj]
  rw [hcs] at hrun
  refine Kd.event_run hgd (v := .int .i64 (s.size : Int)) (w1 := W.setRow g (blkA fun j => if j < s.size then bt s (j : Int) else f j)) ?_
    (h _ (B.row _) (HB.row GE.out _) ⟨Nat.le_of_eq (setRow_size W g _).symm, fun k hk => setRow_other W g k _ hk⟩)
  simp [execOp, ho, resolve, invoke, builtin, hd, hx, hrun, Result.andThen]
  rfl
/-- 'b[l:h]' of an array. -/
theorem ev_sliceArr (hgd : o.guard = none) (t : TypeId) (x lo hi : Operand) (ho : o.op = .slice t x (some lo) (some hi) none) (g l h n : Nat) (L H : Int) (e : TypeId) (hx : a.eval x = .pointer (some ⟨g, 0, none⟩)) (hlo : a.eval lo = .int .i64 L) (hhi : a.eval hi = .int .i64 H)
    (hL : L = (l : Int)) (hH : H = (h : Int)) (hu : P.underlying t = some (.array n e)) (hs : (P.info? e).map (·.size) = some 1) (hlh : l ≤ h) (hhn : h ≤ n) (hln : l < n)
    (hk : wpList P ops Q rest (a.put o.dst (.slice (some ⟨g, l, none⟩) (h - l) (n - l))) W) : wpList P ops Q (o :: rest) a W := by
  subst hL
  subst hH
  refine Kd.event_run hgd (v := .slice (some ⟨g, l, none⟩) (h - l) (n - l)) (w1 := W) ?_ hk
  have hsz : (sizeOf e).run P W = .ok 1 W := by
    cases hq : P.info? e with
    | none => simp [hq] at hs
    | some i => simp [hq] at hs; simp [sizeOf, typeInfo, hq, hs]
  have hadd : (⟨g, 0, none⟩ : Addr).add l = ⟨g, l, none⟩ := by rw [Addr.add_mid, Nat.zero_add]
  have : (Instr.sliceAt t (.pointer (some ⟨g, 0, none⟩)) (some (.int .i64 (l : Int))) (some (.int .i64 (h : Int))) none).run P W = .ok (.slice (some ⟨g, l, none⟩) (h - l) (n - l)) W := by
    have hn : P.arrayLen t = n := by simp [Program.arrayLen, hu]
    have he : P.elem t = e := by simp [Program.elem, hu]
    have hr := run_sliceAt_array_lh (P := P) W t ⟨g, 0, none⟩ (by rw [hn, he]; exact hu) .i64 .i64 (l : Int) (h : Int) (by omega) (by omega) (by rw [hn]; omega)
    rw [hr, he, hsz, hn]
    simp only [Result.andThen_ok, slicedAt, Int.toNat_natCast, Nat.mul_one]
    rw [if_neg (by omega), hadd]
  unfold execOp
  simp [ho, hx, hlo, hhi, this, Result.andThen]
/-- One cell into its block: the run. -/
theorem run_store1 {g i : Nat} {cs : Array Value} {t : TypeId} (B : Blk W g cs t) (hi : i < cs.size) (ty : TypeId) (v : Value) (hs : (P.info? ty).map (·.size) = some 1) (hv : v.oneCell' = true) :
    (storeVar ty ⟨g, i, none⟩ v).run P W = .ok () (W.setRow g (cs.setIfInBounds i v)) := by
  have hc : v.cells = #[v] := by cases v <;> first | rfl | cases hv
  have h := run_storeCells_at P g i t [v] 0 cs W B.out (by simp only [List.length_cons, List.length_nil]; omega) (fun u hu => by rw [List.mem_singleton.1 hu]; exact hv)
  have e : (cs.toList.take (i + 0) ++ [v] ++ cs.toList.drop (i + 0 + [v].length)).toArray = cs.setIfInBounds i v := by
    apply Array.ext_getElem?
    intro j
    rw [Array.getElem?_setIfInBounds, List.getElem?_toArray]
    simp only [Nat.add_zero, List.length_cons, List.length_nil, Nat.zero_add]
    by_cases h1 : j < i
    · rw [List.append_assoc, List.getElem?_append_left (by rw [List.length_take, Array.length_toList]; omega), List.getElem?_take, if_pos h1, if_neg (by omega), Array.getElem?_toList]
    · by_cases h2 : j = i
      · subst h2
        rw [List.append_assoc, List.getElem?_append_right (by rw [List.length_take, Array.length_toList]; omega)]
        simp [Nat.min_eq_left (Nat.le_of_lt hi), hi]
      · rw [List.getElem?_append_right (by simp; omega), if_neg (by omega), List.getElem?_drop, Array.getElem?_toList]
        congr 1
        simp
        omega
  rw [e] at h
  cases hq : P.info? ty with
  | none => simp [hq] at hs
  | some d =>
    simp [hq] at hs
    simp [storeVar, sizeOf, typeInfo, hq, hs, hc, h]
/-- One cell into its block. -/
theorem ev_store1 {w : World} (HB : BelowH w W) {g i : Nat} {cs : Array Value} {t : TypeId} (B : Blk W g cs t) (GE : Aside0 (w.heap.size ≤ g)) (hgd : o.guard = none) (ty : TypeId) (x y : Operand) (ho : o.op = .store ty x y) (hx : a.eval x = .pointer (some ⟨g, i, none⟩)) (v : Value) (hy : a.eval y = v)
    (hi : i < cs.size) (hs : (P.info? ty).map (·.size) = some 1) (hv : v.oneCell' = true)
    (h : ∀ w1, Blk w1 g (cs.setIfInBounds i v) t → BelowH w w1 → Aside0 (W.heap.size ≤ w1.heap.size ∧ ∀ k, k ≠ g → w1.heap[k]? = W.heap[k]?) → wpList P ops Q rest (a.put o.dst undef) w1) : wpList P ops Q (o :: rest) a W := by
  refine wpList_plain hgd fun K hK => ?_
  have := run_store1 (P := P) B hi ty v hs hv
  unfold Oper.wp execOp
  simp only [ho, hx, hy, Instr.storeAt, Instr.sureAddr, Sem.run_bind, Sem.run_pure, Result.andThen_ok, this]
  exact hK _ _ (h _ (B.row _) (HB.row GE.out _) ⟨Nat.le_of_eq (setRow_size W g _).symm, fun k hk => setRow_other W g k _ hk⟩)
/-- What lies in another block stays. -/
theorem Blk.other {g g' : Nat} {cs : Array Value} {t : TypeId} {w1 : World} (B : Blk W g cs t) (K : Aside0 (W.heap.size ≤ w1.heap.size ∧ ∀ k, k ≠ g' → w1.heap[k]? = W.heap[k]?)) (hne : g ≠ g') : Blk w1 g cs t := ⟨(K.out.2 g hne).trans B.out⟩
end
end Go.Proofs.YtgddljealeklkaaDoorM
end
-- Mc
section
namespace Go.Proofs.YtgddljealeklkaaDoorM
open Go Go.RowKit Go.Lib Go.Proofs.YtgddljealeklkaaDoorW.PrintWords Go.Proofs.YtgddljealeklkaaDoorW.PrintLast Go.Proofs.YtgddljealeklkaaDoorW.PrintMore

theorem run_eqItems_int {P : Program} {e : TypeId} {k : IntKind} (he : P.underlying e = some (.int k)) (d : Nat) (w : World) (xs ys : Array Value) (X Y : Nat → Int) :
    ∀ is : List Nat, (∀ j ∈ is, xs[j]? = some (.int k (X j)) ∧ ys[j]? = some (.int k (Y j))) → (Op.eqItems (d + 1) e 1 xs ys is).run P w = .ok (is.all fun j => X j == Y j) w
  | [], _ => by simp [Op.eqItems]
  | j :: is, h => by
    have hp : P.plainKey e = true := by unfold Program.plainKey; rw [he]
    obtain ⟨hx, hy⟩ := h j (by simp)
    have h1 := run_part_plain w hp hx
    have h2 := run_part_plain w hp hy
    have h3 := run_equalIn_int w d e k k (X j) (Y j) he
    have h4 := run_eqItems_int he d w xs ys X Y is fun j hj => h j (by simp [hj])
    simp only [Op.eqItems, Nat.mul_one, Sem.run_bind, h1, h2, h3, Result.andThen_ok]
    by_cases g : X j = Y j
    · simpa [g] using h4
    · simp [g]
/-- Two arrays of whole numbers are the same. -/
theorem run_eqArr {P : Program} {t e : TypeId} {n : Nat} {k : IntKind} (hu : P.underlying t = some (.array n e)) (hi : (P.info? e).isSome = true) (hc : P.cellsOf e = 1) (he : P.underlying e = some (.int k))
    {xs ys : Array Value} (X Y : Nat → Int) (hx : ∀ j, j < n → xs[j]? = some (.int k (X j))) (hy : ∀ j, j < n → ys[j]? = some (.int k (Y j))) (d : Nat) (w : World) :
    (Op.equalIn (d + 2) t (.agg xs) (.agg ys)).run P w = .ok ((List.range n).all fun j => X j == Y j) w := by
  obtain ⟨i, hi⟩ := Option.isSome_iff_exists.mp hi
  rw [run_equalIn_array w (d + 1) xs ys hu hi, hc]
  exact run_eqItems_int he d w xs ys X Y _ fun j hj => ⟨hx j (List.mem_range.mp hj), hy j (List.mem_range.mp hj)⟩
theorem all_eq_true {n : Nat} {X Y : Nat → Int} (h : ∀ j, j < n → X j = Y j) : ((List.range n).all fun j => X j == Y j) = true := by
  rw [List.all_eq_true]
  intro j hj
  exact beq_iff_eq.mpr (h j (List.mem_range.mp hj))
theorem run_equalIn_func_nil {P : Program} (t : TypeId) {ps rs : Array TypeId} {vd : Bool} (h : P.underlying t = some (.func ps rs vd)) (w : World) (d : Nat) (f : Fn) (a c : Array Value) :
    (Op.equalIn (d + 1) t (.func f a c) .nilFunc).run P w = .ok false w := by
  simp [Op.equalIn, run_underlying h]
/-- 'f == nil' -/
theorem run_eql_func_nil {P : Program} (t : TypeId) {ps rs : Array TypeId} {vd : Bool} (h : P.underlying t = some (.func ps rs vd)) (w : World) (f : Fn) (a c : Array Value) :
    (binOp .eql t (.func f a c) .nilFunc).run P w = .ok (.bool false) w := by
  simp only [binOp]
  simp [Op.equal, Op.maxDepth, run_equalIn_func_nil t h w 9999]
/-- 'a[i]' of an array by value. -/
theorem run_index_arr {P : Program} {t e : TypeId} {n : Nat} (h : P.underlying t = some (.array n e)) (hp : P.plainKey e = true) (hi : (P.info? e).isSome = true) (hc : P.cellsOf e = 1) {cs : Array Value} {i : Nat} {v : Value} (hn : i < n) (hv : cs[i]? = some v) (k : IntKind) (w : World) :
    (Instr.index t (.agg cs) (.int k (i : Int))).run P w = .ok v w := by
  obtain ⟨j, hj⟩ := Option.isSome_iff_exists.mp hi
  have h2 : (0 : Int) ≤ i ∧ (i : Int) < (n : Int) := by omega
  have h3 := run_part_plain (P := P) w hp hv
  have h4 := run_sizeOf (P := P) w hj
  rw [hc] at h4
  simp only [Instr.index, asIntOf, Sem.run_bind, Sem.run_pure, Result.andThen_ok, run_underlying h, h2, and_self, if_true, h4, Int.toNat_natCast, Nat.mul_one, h3]
/-- A result that lies in memory, one cell. -/
theorem results_cell1 {P : Program} {fn : Func} {p : Tmp} {ty : TypeId} (h : fn.results = #[.cell p ty]) (tmps : Array Value) (w : World) (g : Nat) (t : TypeId) (v : Value) (d : TypeDesc)
    (hp : tmps.getD p undef = .pointer (some ⟨g, 0, none⟩)) (hg : Blk w g #[v] t) (hu : P.underlying ty = some d) (hd : (match d with | .struct _ | .array _ _ => false | _ => true) = true) :
    (results fn tmps).run P w = .ok v w := by
  have hp' : tmps[p]?.getD undef = .pointer (some ⟨g, 0, none⟩) := by simpa using hp
  have hc := hg.cell (i := 0) rfl
  have hl : (loadVar ty ⟨g, 0, none⟩).run P w = .ok v w := by
    cases d <;> simp at hd <;> (simp only [loadVar, isAgg, Sem.run_bind, run_underlying hu, Result.andThen_ok]; simp [go_sem, hc])
  simp [results, h, hp', asAddr, hl]
section
variable {P : Program} {ops : Array Oper} {rest : List Oper} {o : Oper} {a : Act} {Q : Exit → Act → World → Prop} {W : World}
/-- A struct or an array out of its block. -/
theorem ev_loadS {g : Nat} {cs : Array Value} {t : TypeId} (B : Blk W g cs t) (hgd : o.guard = none) (ty : TypeId) (x : Operand) (ho : o.op = .load ty x) (hx : a.eval x = .pointer (some ⟨g, 0, none⟩))
    {d : TypeDesc} (hu : P.underlying ty = some d) (hd : (match d with | .struct _ | .array _ _ => true | _ => false) = true) (hi : (P.info? ty).map (·.size) = some cs.size)
    (h : wpList P ops Q rest (a.put o.dst (.agg cs)) W) : wpList P ops Q (o :: rest) a W :=
  wpList_load_row hgd ty x ho g hx t cs (0, 0) _ B.out hu hd hi h
end
end Go.Proofs.YtgddljealeklkaaDoorM
end
-- Qc
section
namespace Go.Proofs.YtgddljealeklkaaDoorQ
open Go Go.RowKit Go.Proofs.YtgddljealeklkaaDoorW.PrintWords

/-- Is the byte at a place escaped, the first one being so or not. -/
def esc (s : ByteArray) (first : Bool) : Nat → Bool
  | 0 => first
  | i + 1 => decide (bt s (i : Int) = 92) && !esc s first i
/-- The same of any row of bits. -/
def escW (q : Nat → Bool) (c : Bool) : Nat → Bool
  | 0 => c
  | i + 1 => q i && !escW q c i
theorem esc_escW (s : ByteArray) (f : Bool) : ∀ i, esc s f i = escW (fun i => decide (bt s (i : Int) = 92)) f i
  | 0 => rfl
  | i + 1 => by simp only [esc, escW, esc_escW s f i]
theorem escW_congr {q r : Nat → Bool} (c : Bool) : ∀ n, (∀ i, i < n → q i = r i) → escW q c n = escW r c n
  | 0, _ => rfl
  | n + 1, h => by simp only [escW, h n (by omega), escW_congr c n fun i hi => h i (by omega)]
theorem escW_add (q : Nat → Bool) (c : Bool) (m : Nat) : ∀ n, escW q c (m + n) = escW (fun i => q (m + i)) (escW q c m) n
  | 0 => rfl
  | n + 1 => by
    have : escW q c (m + (n + 1)) = (q (m + n) && !escW q c (m + n)) := rfl
    rw [this, escW_add q c m n]
    rfl
/-- Where no bit is set and nothing is carried, nothing is escaped. -/
theorem escW_none {q : Nat → Bool} : ∀ n, (∀ i, i < n → q i = false) → escW q false n = false
  | 0, _ => rfl
  | n + 1, h => by simp [escW, h n (by omega)]

/-- Every second bit from 1 on. -/
def oddsW : BitVec 64 := 12297829382473034410#64
theorem odds_bit : ∀ i, i < 64 → oddsW.getLsbD i = decide (i % 2 = 1) := by decide

/-- What begins a row: set, and not escaped itself. -/
def begW (q : Nat → Bool) (c : Bool) (i : Nat) : Bool := q i && !(decide (i = 0) && c)
/-- From what is taken away. -/
def frmW (q : Nat → Bool) (c : Bool) (i : Nat) : Bool := decide (i % 2 = 1) || (decide (0 < i) && begW q c (i - 1))
/-- What is borrowed. -/
def borW (q : Nat → Bool) (c : Bool) : Nat → Bool
  | 0 => false
  | i + 1 => (!frmW q c i && (begW q c i || borW q c i)) || (begW q c i && borW q c i)
/-- What is borrowed tells what is escaped. -/
theorem borW_esc (q : Nat → Bool) (c : Bool) : ∀ i, borW q c (i + 1) = (escW q c (i + 1) ^^ (decide ((i + 1) % 2 = 0) && begW q c i))
  | 0 => by
    simp only [borW, frmW, begW, escW]
    cases q 0 <;> cases c <;> simp
  | i + 1 => by
    have ih := borW_esc q c i
    have e : escW q c (i + 1 + 1) = (q (i + 1) && !escW q c (i + 1)) := rfl
    have e1 : escW q c (i + 1) = (q i && !escW q c i) := rfl
    have eb : begW q c (i + 1) = q (i + 1) := by simp [begW]
    have hb : begW q c i = false → escW q c (i + 1) = false := by
      intro h
      cases i with
      | zero =>
        simp only [begW, escW] at h ⊢
        revert h
        cases q 0 <;> cases c <;> simp
      | succ i =>
        simp only [begW, e1] at h ⊢
        simp at h
        simp [h]
    rw [borW, ih, e, eb]
    have hf : frmW q c (i + 1) = (decide ((i + 1) % 2 = 1) || begW q c i) := by simp [frmW]
    rw [hf]
    revert hb
    rcases Nat.mod_two_eq_zero_or_one (i + 1) with h | h
    · simp only [h, show (i + 1 + 1) % 2 = 1 by omega]
      cases begW q c i <;> cases q (i + 1) <;> cases escW q c (i + 1) <;> simp
    · simp only [h, show (i + 1 + 1) % 2 = 0 by omega]
      cases begW q c i <;> cases q (i + 1) <;> cases escW q c (i + 1) <;> simp
theorem beg_word (q : Nat → Bool) (c : Bool) : word q &&& ~~~(if c then 1#64 else 0#64) = word (begW q c) := by
  apply eq_word
  intro i hi
  rw [BitVec.getLsbD_and, BitVec.getLsbD_not, word_bit]
  cases c
  · simp [begW, hi]
  · simp [begW, hi]
theorem frm_word (q : Nat → Bool) (c : Bool) : (word (begW q c) <<< 1) ||| oddsW = word (frmW q c) := by
  apply eq_word
  intro i hi
  rw [BitVec.getLsbD_or, BitVec.getLsbD_shiftLeft, odds_bit i hi, word_bit]
  unfold frmW
  by_cases h : 0 < i
  · simp [hi, h, show ¬ i < 1 by omega, show i - 1 < 64 by omega, Bool.or_comm]
  · simp [hi, show i < 1 by omega, h]
theorem sub_word (q : Nat → Bool) (c : Bool) : word (frmW q c) - word (begW q c) = word (fun i => frmW q c i ^^ (begW q c i ^^ borW q c i)) := by
  have hc : ∀ i, i ≤ 64 → BitVec.carry i (word fun i => frmW q c i ^^ (begW q c i ^^ borW q c i)) (word (begW q c)) false = borW q c i := by
    intro i
    induction i with
    | zero => intro _; simp [BitVec.carry_zero, borW]
    | succ i ih =>
      intro hi
      rw [BitVec.carry_succ, ih (by omega), word_bit, word_bit, borW]
      simp only [show i < 64 by omega, decide_true, Bool.true_and, Bool.atLeastTwo]
      cases frmW q c i <;> cases begW q c i <;> cases borW q c i <;> rfl
  have hs : (word fun i => frmW q c i ^^ (begW q c i ^^ borW q c i)) + word (begW q c) = word (frmW q c) := by
    apply eq_word
    intro i hi
    rw [BitVec.getLsbD_add hi, hc i (by omega), word_bit, word_bit]
    simp only [hi, decide_true, Bool.true_and]
    cases frmW q c i <;> cases begW q c i <;> cases borW q c i <;> rfl
  rw [← hs, BitVec.add_sub_cancel]
/-- The 64 places at one time. -/
theorem escaped_word (q : Nat → Bool) (c : Bool) :
    ((((word q &&& ~~~(if c then 1#64 else 0#64)) <<< 1) ||| oddsW) - (word q &&& ~~~(if c then 1#64 else 0#64))) ^^^ oddsW ^^^ (word q ||| (if c then 1#64 else 0#64)) = word (escW q c) := by
  rw [beg_word, frm_word, sub_word]
  apply eq_word
  intro i hi
  rw [BitVec.getLsbD_xor, BitVec.getLsbD_xor, BitVec.getLsbD_or, word_bit, word_bit, odds_bit i hi]
  simp only [hi, decide_true, Bool.true_and]
  cases i with
  | zero => cases c <;> simp [frmW, begW, borW, escW]
  | succ i =>
    have h1 : ((if c then 1#64 else 0#64) : BitVec 64).getLsbD (i + 1) = false := by cases c <;> simp
    rw [h1, borW_esc]
    have eb : begW q c (i + 1) = q (i + 1) := by simp [begW]
    have hf : frmW q c (i + 1) = (decide ((i + 1) % 2 = 1) || begW q c i) := by simp [frmW]
    rw [eb, hf]
    rcases Nat.mod_two_eq_zero_or_one (i + 1) with h | h
    · simp only [h]
      cases begW q c i <;> cases q (i + 1) <;> cases escW q c (i + 1) <;> simp
    · simp only [h]
      cases begW q c i <;> cases q (i + 1) <;> cases escW q c (i + 1) <;> simp
/-- What is carried on. -/
theorem escaped_carry (q : Nat → Bool) (c : Bool) :
    (((((((word q &&& ~~~(if c then 1#64 else 0#64)) <<< 1) ||| oddsW) - (word q &&& ~~~(if c then 1#64 else 0#64))) ^^^ oddsW) &&& word q) >>> 63 != 0#64) = escW q c 64 := by
  rw [beg_word, frm_word, sub_word]
  have h : ∀ v : BitVec 64, (v >>> 63 != 0#64) = v.getLsbD 63 := by
    intro v
    rw [Bool.eq_iff_iff]
    simp only [bne_iff_ne, ne_eq]
    constructor
    · intro hv
      cases hb : v.getLsbD 63 with
      | true => rfl
      | false =>
        exfalso
        apply hv
        apply BitVec.eq_of_getLsbD_eq
        intro i hi
        rw [BitVec.getLsbD_ushiftRight]
        by_cases h0 : i = 0
        · subst h0
          simpa using hb
        · rw [BitVec.getLsbD_of_ge _ _ (by omega)]
          simp
    · intro hb hv
      have := congrArg (fun w => w.getLsbD 0) hv
      simp at this
      simp at hb
      rw [hb] at this
      cases this
  rw [h, BitVec.getLsbD_and, BitVec.getLsbD_xor, word_bit, word_bit, odds_bit 63 (by decide), borW_esc]
  have eb : begW q c 63 = q 63 := by simp [begW]
  have hf : frmW q c 63 = true := by simp [frmW]
  have he : escW q c 64 = (q 63 && !escW q c 63) := rfl
  rw [eb, hf, he]
  cases q 63 <;> cases escW q c (62 + 1) <;> simp

/-- The bytes of a text from a place on, filled up. -/
def cutF (s : ByteArray) (at_ pad : Int) (i : Nat) : Int := if 0 ≤ at_ ∧ at_ + i < s.size then bt s (at_ + i) else pad
/-- How many of them are the text's. -/
def cutN (s : ByteArray) (at_ : Int) : Int := if at_ < 0 ∨ (s.size : Int) ≤ at_ then 0 else if 64 ≤ (s.size : Int) - at_ then 64 else (s.size : Int) - at_
theorem cutF_range (s : ByteArray) (at_ pad : Int) (h : 0 ≤ pad ∧ pad < 256) (i : Nat) : 0 ≤ cutF s at_ pad i ∧ cutF s at_ pad i < 256 := by
  unfold cutF
  split
  · have := bt_range s (at_ + i)
    omega
  · exact h
/-- A text's byte, or what it is filled up with. -/
def byteX (s : ByteArray) (pad : Int) (i : Nat) : Int := if i < s.size then bt s (i : Int) else pad
theorem cutF_byteX (s : ByteArray) (pad : Int) (x j : Nat) : cutF s (64 * (x : Int)) pad j = byteX s pad (64 * x + j) := by
  unfold cutF byteX
  by_cases h : 64 * x + j < s.size
  · rw [if_pos (by omega), if_pos h]
    congr 1
  · rw [if_neg (by omega), if_neg h]

/-- One block: what is carried, the words. -/
def stepE (s : ByteArray) (st : Bool × List Int) (x : Nat) : Bool × List Int :=
  (escW (fun j => decide (cutF s (64 * (x : Int)) 32 j = 92)) st.1 64, st.2 ++ [iv (word fun j => decide (64 * x + j < s.size) && escW (fun j => decide (cutF s (64 * (x : Int)) 32 j = 92)) st.1 j)])
def foldE (s : ByteArray) {n : Nat} (pre : List (Fin n)) : Bool × List Int := pre.foldl (fun st x => stepE s st x.val) (false, [])
theorem foldE_snoc (s : ByteArray) {n : Nat} (pre : List (Fin n)) (x : Fin n) : foldE s (pre ++ [x]) = stepE s (foldE s pre) x.val := by
  unfold foldE
  rw [List.foldl_append]
  rfl
theorem foldE_take (s : ByteArray) (n : Nat) : ∀ k, k ≤ n → foldE s ((List.finRange n).take k) =
    (escW (fun i => decide (byteX s 32 i = 92)) false (64 * k), (List.range k).map fun k => iv (wordAt s.size (escW (fun i => decide (byteX s 32 i = 92)) false) k))
  | 0, _ => rfl
  | k + 1, h => by
    rw [finRange_take n k (by omega), foldE_snoc, foldE_take s n k (by omega)]
    have hq : (fun j => decide (cutF s (64 * (k : Int)) 32 j = 92)) = fun j => decide (byteX s 32 (64 * k + j) = 92) := funext fun j => by rw [cutF_byteX]
    unfold stepE
    simp only [hq]
    refine Prod.ext ?_ ?_
    · dsimp only
      rw [Nat.mul_succ, escW_add]
    · have e : wordAt s.size (escW (fun i => decide (byteX s 32 i = 92)) false) k = word (fun j => decide (64 * k + j < s.size) && escW (fun j => decide (byteX s 32 (64 * k + j) = 92)) (escW (fun i => decide (byteX s 32 i = 92)) false (64 * k)) j) :=
        word_ext fun j _ => by rw [escW_add]
      dsimp only
      rw [List.range_succ, List.map_append, List.map_cons, List.map_nil, e]
/-- All blocks, in order: the row of what is escaped. -/
theorem foldE_all (s : ByteArray) : (foldE s (List.finRange (nwords s.size))).2 = wordsOf s.size (esc s false) := by
  have h := foldE_take s (nwords s.size) (nwords s.size) (Nat.le_refl _)
  rw [List.take_of_length_le (by rw [List.length_finRange]; exact Nat.le_refl _)] at h
  rw [h]
  show wordsOf s.size _ = _
  apply wordsOf_ext
  intro i hi
  rw [esc_escW]
  apply escW_congr
  intro j hj
  unfold byteX
  rw [if_pos (by omega)]
/-- A block without backslashes, nothing carried: the word 0, nothing carried on. -/
theorem zero_step (s : ByteArray) (st : Bool × List Int) (x : Nat) {q : Nat → Bool} (hq : q = fun j => decide (cutF s (64 * (x : Int)) 32 j = 92)) (h0 : iv (word q) = 0) (hc : st.1 = false) :
    (stepE s st x).1 = false ∧ (stepE s st x).2 = st.2 ++ [0] := by
  have hw : ∀ i, i < 64 → q i = false := by
    intro i hi
    have e : word q = 0#64 := iv_inj.1 (h0.trans (by decide))
    have := word_bit q i
    rw [e] at this
    simpa [hi] using this.symm
  unfold stepE
  rw [← hq, hc]
  refine ⟨escW_none 64 hw, ?_⟩
  have : (word fun j => decide (64 * x + j < s.size) && escW q false j) = 0#64 := by
    apply BitVec.eq_of_getLsbD_eq
    intro i hi
    rw [word_bit, escW_none i fun k hk => hw k (by omega)]
    simp
  rw [this]
  rfl
/-- A block that lies in the text. -/
theorem full_step (s : ByteArray) (st : Bool × List Int) (x : Nat) {q : Nat → Bool} {c : Bool} (hq : q = fun j => decide (cutF s (64 * (x : Int)) 32 j = 92)) (hc : c = st.1) (hf : 64 * x + 64 ≤ s.size) :
    stepE s st x = (escW q c 64, st.2 ++ [iv (word (escW q c))]) := by
  have e : (word fun j => decide (64 * x + j < s.size) && escW q c j) = word (escW q c) := word_ext fun j hj => by
    rw [decide_eq_true (by omega), Bool.true_and]
  unfold stepE
  rw [← hq, ← hc, e]
/-- The bits below a place. -/
theorem mask_int (left : Nat) (h : left < 64) : IntKind.u64.wrap (IntKind.u64.wrap (2 ^ left) - 1) = iv (BitVec.ofNat 64 (2 ^ left - 1)) := by
  have hp : 2 ^ left < 2 ^ 64 := Nat.pow_lt_pow_right (by omega) h
  have h1 : 0 < 2 ^ left := Nat.pow_pos (by omega)
  have e : (2 : Int) ^ left = ((2 ^ left : Nat) : Int) := by rw [Int.natCast_pow]; rfl
  rw [e, wrap_nat, Nat.mod_eq_of_lt (by omega), show ((2 ^ left : Nat) : Int) - 1 = ((2 ^ left - 1 : Nat) : Int) by omega, wrap_nat, Nat.mod_eq_of_lt (by omega)]
  unfold iv
  rw [BitVec.toNat_ofNat, Nat.mod_eq_of_lt (by omega)]
theorem mask_word (p : Nat → Bool) (left : Nat) (h : left < 64) :
    bits .and .u64 (iv (word p)) (IntKind.u64.wrap (IntKind.u64.wrap (2 ^ left) - 1)) = iv (word fun j => decide (j < left) && p j) := by
  rw [mask_int left h, bits_and]
  congr 1
  apply eq_word
  intro i hi
  rw [BitVec.getLsbD_and, word_bit, BitVec.getLsbD_ofNat, Nat.testBit_two_pow_sub_one]
  simp only [hi, decide_true, Bool.true_and]
  rw [Bool.and_comm]
/-- A block that reaches beyond the text. -/
theorem part_step (s : ByteArray) (st : Bool × List Int) (x : Nat) {q : Nat → Bool} {c : Bool} (hq : q = fun j => decide (cutF s (64 * (x : Int)) 32 j = 92)) (hc : c = st.1) (hx : 64 * x < s.size) (hf : s.size < 64 * x + 64) :
    stepE s st x = (escW q c 64, st.2 ++ [bits .and .u64 (iv (word (escW q c))) (IntKind.u64.wrap (IntKind.u64.wrap (2 ^ (s.size - 64 * x)) - 1))]) := by
  have e : (word fun j => decide (64 * x + j < s.size) && escW q c j) = word fun j => decide (j < s.size - 64 * x) && escW q c j := word_ext fun j hj => by
    congr 1
    rw [decide_eq_decide]
    omega
  unfold stepE
  rw [← hq, ← hc, e, mask_word _ _ (by omega)]
end Go.Proofs.YtgddljealeklkaaDoorQ
end
-- Qd
section
namespace Go.Proofs.YtgddljealeklkaaDoorQ
open Go Go.RowKit Go.Lib Go.Proofs.YtgddljealeklkaaDoorW.PrintWords
/-- The word of a class. -/
def clsW (p : Nat → Bool) (k : Nat) : BitVec 64 := word fun j => p (64 * k + j)
def clsA (p : Nat → Bool) : Array Value := Array.ofFn (n := 4) fun i => .int .u64 (iv (clsW p i))
theorem clsA_size (p : Nat → Bool) : (clsA p).size = 4 := by simp [clsA]
theorem clsA_get (p : Nat → Bool) {i : Nat} (h : i < 4) : (clsA p)[i]? = some (.int .u64 (iv (clsW p i))) := by
  simp [clsA, h]
theorem clsA_ext {cs : Array Value} {p : Nat → Bool} (hs : cs.size = 4) (h : ∀ i, i < 4 → cs[i]? = some (.int .u64 (iv (clsW p i)))) : cs = clsA p := by
  apply Array.ext_getElem?
  intro i
  by_cases hi : i < 4
  · rw [h i hi, clsA_get p hi]
  · rw [Array.getElem?_eq_none (by omega), Array.getElem?_eq_none (by rw [clsA_size]; omega)]
theorem clsW_congr {p q : Nat → Bool} {k : Nat} (h : ∀ j, j < 64 → p (64 * k + j) = q (64 * k + j)) : clsW p k = clsW q k := word_ext h
theorem clsA_congr {p q : Nat → Bool} (h : ∀ x, x < 256 → p x = q x) : clsA p = clsA q :=
  clsA_ext (clsA_size p) fun i hi => by rw [clsA_get p hi, clsW_congr fun j hj => h _ (by omega)]
theorem clsA_set {p q : Nat → Bool} {k : Nat} {v : Int} (hk : k < 4) (h1 : v = iv (clsW q k)) (h2 : ∀ x, x < 256 → x / 64 ≠ k → p x = q x) : (clsA p).setIfInBounds k (.int .u64 v) = clsA q := by
  refine clsA_ext (by simp [clsA_size]) fun i hi => ?_
  rw [Array.getElem?_setIfInBounds]
  by_cases g : k = i
  · subst g
    simp [clsA_size, hk, h1]
  · rw [if_neg g, clsA_get p hi, clsW_congr fun j hj => h2 _ (by omega) (by omega)]
theorem clsW_none (k : Nat) : clsW (fun _ => false) k = 0#64 := by
  have : ∀ p, (∀ i, p i = false) → word p = 0#64 := fun p h => (eq_word fun i hi => by simp [h]).symm
  exact this _ fun _ => rfl
theorem clsA_zero : (Array.replicate 4 (.int .u64 0) : Array Value) = clsA fun _ => false :=
  clsA_ext (by simp) fun i hi => by
    rw [clsW_none]
    simp [hi]
    rfl
theorem clsA_one (p : Nat → Bool) : (clsA p).all (·.oneCell') = true := by
  rw [Array.all_eq_true]
  intro i hi
  have h4 : i < 4 := by simpa [clsA_size] using hi
  have := clsA_get p h4
  rw [Array.getElem?_eq_getElem hi] at this
  rw [Option.some.inj this]
  rfl
/-- Which bytes stand in the first n of a text. -/
def inT (s : ByteArray) : Nat → Nat → Bool
  | 0, _ => false
  | n + 1, x => inT s n x || decide (bt s (n : Int) = (x : Int))
theorem word_set (p : Nat → Bool) (b : Nat) (hb : b < 64) : word p ||| (1#64 <<< b) = word fun i => p i || decide (i = b) := by
  refine eq_word fun i hi => ?_
  simp only [BitVec.getLsbD_or, word_bit, BitVec.getLsbD_shiftLeft, hi, decide_true, Bool.true_and, BitVec.getLsbD_one]
  by_cases g : i = b
  · subst g
    simp
  · simp [g]
    omega
theorem bits_and_u8_63 (n : Nat) (h : n < 256) : bits .and .u8 (n : Int) 63 = ((n % 64 : Nat) : Int) := by
  have : ∀ m : Fin 256, bits .and .u8 (m.val : Int) 63 = ((m.val % 64 : Nat) : Int) := by decide +kernel
  exact this ⟨n, h⟩
theorem cls_or {p q : Nat → Bool} {k m : Nat} (hm : m < 64) (h : ∀ x, q x = (p x || decide (x = 64 * k + m))) :
    bits .or .u64 (iv (clsW p k)) (IntKind.u64.wrap (2 ^ m)) = iv (clsW q k) := by
  have e : IntKind.u64.wrap ((2 : Int) ^ m) = iv (1#64 <<< m) := by
    have := wrap_shl 1#64 m
    rw [← this]
    congr 1
    have : iv 1#64 = 1 := rfl
    rw [this, Int.one_mul]
  rw [e, bits_or]
  unfold clsW
  rw [word_set _ _ hm]
  congr 1
  exact word_ext fun i _ => by
    rw [h]
    congr 1
    exact decide_eq_decide.mpr (by omega)
theorem inT_step {s : ByteArray} {i k m : Nat} (h : i < s.size) (hk : k = (s[i]'h).toNat / 64) (hm : m = (s[i]'h).toNat % 64) (x : Nat) : inT s (i + 1) x = (inT s i x || decide (x = 64 * k + m)) := by
  show (inT s i x || decide (bt s (i : Int) = (x : Int))) = _
  congr 1
  have e : bt s (i : Int) = ((s[i]'h).toNat : Int) := (bt_at s (i : Int) h).symm
  rw [e]
  exact decide_eq_decide.mpr (by omega)
theorem inT_else {s : ByteArray} {i k x : Nat} (h : i < s.size) (hk : k = (s[i]'h).toNat / 64) (hx : x / 64 ≠ k) : inT s (i + 1) x = inT s i x := by
  rw [inT_step h hk rfl, decide_eq_false (by omega), Bool.or_false]
theorem w64_up {i n : Nat} (h : i < n) (hn : n ≤ 281474976702464) : wrap64 ((i : Int) + 1) = ((i + 1 : Nat) : Int) := by unfold wrap64; omega
theorem cls_bit (p : Nat → Bool) {k m : Nat} (hm : m < 64) : (clsW p k).getLsbD m = p (64 * k + m) := by
  unfold clsW
  rw [word_bit]
  simp [hm]
theorem cls_none {p : Nat → Bool} (h : ((List.range 4).all fun j => iv (clsW p j) == 0) = true) : ∀ x, x < 256 → p x = false := by
  intro x hx
  rw [List.all_eq_true] at h
  have h1 := h (x / 64) (List.mem_range.mpr (by omega))
  have h2 : iv (clsW p (x / 64)) = iv 0#64 := by
    have e0 : iv 0#64 = 0 := rfl
    rw [e0]
    simpa using h1
  have h3 := cls_bit p (k := x / 64) (m := x % 64) (by omega)
  rw [iv_inj.mp h2] at h3
  have e : 64 * (x / 64) + x % 64 = x := by omega
  rw [e] at h3
  rw [← h3]
  exact BitVec.getLsbD_zero
theorem word_none {p : Nat → Bool} (h : ∀ i, i < 64 → p i = false) : iv (word p) = 0 := by
  rw [word_ext (q := fun _ => false) h]
  have := clsW_none 0
  unfold clsW at this
  rw [this]
  rfl
/-- One place more. -/
theorem mask_step (p q : Nat → Bool) {k m i : Nat} (hm : m < 64) (hi : i < 64) (h : q i = p (64 * k + m)) :
    bits .or .u64 (iv (word fun j => decide (j < i) && q j)) (IntKind.u64.wrap (bits .and .u64 (iv (clsW p k) / 2 ^ m) 1 * 2 ^ i)) = iv (word fun j => decide (j < i + 1) && q j) := by
  have e1 : (1 : Int) = iv 1#64 := rfl
  rw [shr_iv, e1, bits_and, wrap_shl, bits_or]
  congr 1
  refine eq_word fun j hj => ?_
  simp only [BitVec.getLsbD_or, word_bit, BitVec.getLsbD_shiftLeft, BitVec.getLsbD_and, BitVec.getLsbD_ushiftRight, BitVec.getLsbD_one, hj, decide_true, Bool.true_and]
  by_cases g : j < i
  · simp [g, show j < i + 1 by omega]
  · by_cases g2 : j = i
    · subst g2
      simp [cls_bit p hm, h]
    · have : ¬ j < i + 1 := by omega
      have : j - i ≠ 0 := by omega
      simp [*]
theorem mask_step_at (p : Nat → Bool) (f : Nat → Int) {i x k m : Nat} (hx : f i = (x : Int)) (hk : k = x / 64) (hm : m = x % 64) (hi : i < 64) :
    bits .or .u64 (iv (word fun j => decide (j < i) && p (f j).toNat)) (IntKind.u64.wrap (bits .and .u64 (iv (clsW p k) / 2 ^ m) 1 * 2 ^ i)) = iv (word fun j => decide (j < i + 1) && p (f j).toNat) := by
  refine mask_step p (fun j => p (f j).toNat) (by omega) hi ?_
  show p (f i).toNat = _
  rw [hx]
  congr 1
  simp only [Int.toNat_natCast]
  omega
theorem word_done (q : Nat → Bool) : (word fun j => decide (j < 64) && q j) = word q := word_ext fun i hi => by simp [hi]
/-- One byte more. -/
def clsPut (p : Nat → Bool) (x y : Nat) : Bool := p y || decide (y = x)
/-- The first k words done. -/
def mixA (r p : Nat → Bool) (k x : Nat) : Bool := if x < 64 * k then r x else p x
theorem mix_zero (r p : Nat → Bool) : clsA p = clsA (mixA r p 0) := clsA_congr fun x _ => by simp [mixA]
theorem mix_at (r p : Nat → Bool) (k : Nat) : clsW (mixA r p k) k = clsW p k := clsW_congr fun j _ => by
  unfold mixA
  rw [if_neg (by omega)]
theorem mix_step (r p : Nat → Bool) {k : Nat} (hk : k < 4) {v : Int} (hv : v = iv (clsW r k)) : (clsA (mixA r p k)).setIfInBounds k (.int .u64 v) = clsA (mixA r p (k + 1)) :=
  clsA_set hk (by
    rw [hv]
    exact congrArg iv (clsW_congr fun j hj => by
      unfold mixA
      rw [if_pos (by omega)])) (fun x _ hx => by
    unfold mixA
    by_cases g : x < 64 * k
    · rw [if_pos g, if_pos (by omega)]
    · rw [if_neg g, if_neg (by omega)])
theorem mix_end (r p : Nat → Bool) : clsA (mixA r p 4) = clsA r := clsA_congr fun x hx => by
  unfold mixA
  rw [if_pos (by omega)]
def joinC (p q : Nat → Bool) (x : Nat) : Bool := p x || q x
theorem join_word (p q : Nat → Bool) (k : Nat) : bits .or .u64 (iv (clsW p k)) (iv (clsW q k)) = iv (clsW (joinC p q) k) := by
  rw [bits_or]
  exact congrArg iv (eq_word fun j hj => by
    rw [BitVec.getLsbD_or, cls_bit p hj, cls_bit q hj]
    rfl)
/-- The first x bytes looked at. -/
def lowC (r : Nat → Bool) (x y : Nat) : Bool := decide (y < x) && r y
theorem low_zero (r : Nat → Bool) : clsA (fun _ => false) = clsA (lowC r 0) := clsA_congr fun y _ => by simp [lowC]
theorem low_put (r : Nat → Bool) {x : Nat} (h : r x = true) : clsA (clsPut (lowC r x) x) = clsA (lowC r (x + 1)) := clsA_congr fun y _ => by
  unfold clsPut lowC
  by_cases g : y = x
  · subst g
    simp [h]
  · have : (y < x + 1) ↔ (y < x) := by omega
    simp [g, this]
theorem low_skip (r : Nat → Bool) {x : Nat} (h : r x = false) : clsA (lowC r x) = clsA (lowC r (x + 1)) := clsA_congr fun y _ => by
  unfold lowC
  by_cases g : y = x
  · subst g
    simp [h]
  · have : (y < x + 1) ↔ (y < x) := by omega
    simp [this]
theorem low_end (r : Nat → Bool) : clsA (lowC r 256) = clsA r := clsA_congr fun y h => by simp [lowC, h]
theorem u8_wrap {x : Nat} (h : x < 256) : IntKind.u8.wrap (x : Int) = (x : Int) := by
  simp [IntKind.wrap, IntKind.signed, IntKind.bits]
  omega
theorem mask_or (p q : Nat → Bool) : bits .or .u64 (iv (word p)) (iv (word q)) = iv (word fun j => p j || q j) := by
  rw [bits_or]
  exact congrArg iv (eq_word fun j hj => by rw [BitVec.getLsbD_or, word_bit, word_bit, decide_eq_true hj, Bool.true_and, Bool.true_and])
theorem mask_andNot (p q : Nat → Bool) : bits .andNot .u64 (iv (word p)) (iv (word q)) = iv (word fun j => p j && !q j) := by
  rw [bits_andNot]
  exact congrArg iv (eq_word fun j hj => by rw [BitVec.getLsbD_and, BitVec.getLsbD_not, word_bit, word_bit, decide_eq_true hj, Bool.true_and, Bool.true_and, Bool.true_and])
theorem mask_not (p : Nat → Bool) : bits .xor .u64 18446744073709551615 (iv (word p)) = iv (word fun j => !p j) := by
  have e2 : (18446744073709551615 : Int) = iv (BitVec.allOnes 64) := by decide
  rw [e2, bits_xor, BitVec.allOnes_xor]
  exact congrArg iv (eq_word fun j hj => by rw [BitVec.getLsbD_not, word_bit, decide_eq_true hj, Bool.true_and, Bool.true_and])
theorem u8_of {x : Nat} (hx : x < 256) : (((UInt8.ofNat x).toNat : Nat) : Int) = (x : Int) := by
  have h : (UInt8.ofNat x).toNat = x % 256 := by simp
  rw [h, Nat.mod_eq_of_lt hx]
theorem one_byte (x : Nat) (hx : x < 256) (y : Nat) : inT (⟨#[UInt8.ofNat x]⟩ : ByteArray) 1 y = decide (y = x) := by
  show (false || decide (bt (⟨#[UInt8.ofNat x]⟩ : ByteArray) ((0 : Nat) : Int) = (y : Int))) = _
  have e : bt (⟨#[UInt8.ofNat x]⟩ : ByteArray) ((0 : Nat) : Int) = (x : Int) := by
    have h := (bt_at (⟨#[UInt8.ofNat x]⟩ : ByteArray) ((0 : Nat) : Int) (Nat.zero_lt_one)).symm
    rw [h]
    show (((UInt8.ofNat x).toNat : Nat) : Int) = (x : Int)
    exact u8_of hx
  rw [e, Bool.false_or]
  exact decide_eq_decide.mpr (by omega)
end Go.Proofs.YtgddljealeklkaaDoorQ
end
-- Md
section
namespace Go.Proofs.YtgddljealeklkaaDoorM
open Go Go.RowKit Go.Proofs.YtgddljealeklkaaDoorQ Go.Proofs.YtgddljealeklkaaDoorW.PrintWords
theorem size64 : (Tryd.prog.info? 85).map (·.size) = some (blkA fun _ => 0).size := by kernel_rfl
theorem size64' (f : Nat → Int) : (Tryd.prog.info? 85).map (·.size) = some (blkA f).size := by rw [size64, blkA_size, blkA_size]
theorem sizeC' (p : Nat → Bool) : (Tryd.prog.info? 111).map (·.size) = some (clsA p).size := by
  rw [clsA_size]
  kernel_rfl
theorem size4' (p : Nat → Bool) : (Tryd.prog.info? 109).map (·.size) = some (clsA p).size := by
  rw [clsA_size]
  kernel_rfl
end Go.Proofs.YtgddljealeklkaaDoorM
end
-- Mb
section
namespace Go.Proofs.YtgddljealeklkaaDoorM
open Go Go.RowKit Go.Lib Go.Proofs.YtgddljealeklkaaDoorW.PrintWords Go.Proofs.YtgddljealeklkaaDoorW.PrintLast Go.Proofs.YtgddljealeklkaaDoorW.PrintMore
section
variable {F : Fence} {n : Nat} {P : Program} {ops : Array Oper} {rest : List Oper} {o : Oper} {a : Act} {Q : Exit → Act → World → Prop} {W : World}
theorem callsIn_of (hF : Aside0 (F = Fence.wide)) {f : FuncId} {args : Array Value} {w : World} {R : Ending → World → Prop} (h : Calls P f args w R) : CallsIn F n P f args w R := by
  obtain ⟨rfl⟩ := hF
  exact callsIn_wide.2 h
theorem wide_fn (hF : Aside0 (F = Fence.wide)) (f : FuncId) : F.fn f := by
  obtain ⟨rfl⟩ := hF
  trivial
theorem wide_round (hF : Aside0 (F = Fence.wide)) : F.round = none := by
  obtain ⟨rfl⟩ := hF
  rfl
/-- A scope without jumps, inside the widest fence. -/
theorem wpIn_scope (hF : Aside0 (F = Fence.wide)) {c : Code} {w : World} (h : c.wpIn F n P (Exit.noGoto Q) a w) : (Code.scope c).wpIn F n P Q a w := by
  obtain ⟨rfl⟩ := hF
  exact wpIn_wide.2 (wp_scope_straight (wpIn_wide.1 h))
/-- Neither a call nor a deferred one. -/
def Oper.plainOp (o : Oper) : Bool := match o.op with | .call _ | .defer _ => false | _ => true
theorem event_runIn (hp : Oper.plainOp o = true) {w1 : World} {v : Value} (hgd : o.guard = none) (hrun : (execOp a.eval o).run P W = .ok (.value v) w1) (h : wpListIn F n P ops Q rest (a.put o.dst v) w1) : wpListIn F n P ops Q (o :: rest) a W := by
  refine wpListIn_plain hgd fun K hK => ⟨fun f hf => ?_, ?_⟩
  · unfold Oper.about at hf
    unfold Oper.plainOp at hp
    split at hf
    · rename_i c hc
      simp [hc] at hp
    · cases hf
  · rw [Oper.semAt_eq _ _ _ (fun c hc => by simp [Oper.plainOp, hc] at hp), hrun]
    exact hK _ _ h
theorem event_skipIn (hp : Oper.plainOp o = true) {w1 : World} (hgd : o.guard = none) (hrun : (execOp a.eval o).run P W = .ok .skip w1) (h : wpListIn F n P ops Q rest (a.put o.dst undef) w1) : wpListIn F n P ops Q (o :: rest) a W := by
  refine wpListIn_plain hgd fun K hK => ⟨fun f hf => ?_, ?_⟩
  · unfold Oper.about at hf
    unfold Oper.plainOp at hp
    split at hf
    · rename_i c hc
      simp [hc] at hp
    · cases hf
  · rw [Oper.semAt_eq _ _ _ (fun c hc => by simp [Oper.plainOp, hc] at hp), hrun]
    exact hK _ _ h
theorem gate_dstIn {N : Tmp} (_hN : o.dst = some N) (h : wpListIn F n P ops Q (o :: rest) a W) : wpListIn F n P ops Q (o :: rest) a W := h
theorem gate_In (op : Op) (_ho : o.op = op) (h : wpListIn F n P ops Q (o :: rest) a W) : wpListIn F n P ops Q (o :: rest) a W := h
/-- A new block, in letters. -/
theorem ev_allocIn {w : World} (HB : BelowH w W) (hp : Oper.plainOp o = true) (hgd : o.guard = none) (cs : Array Value) (t : TypeId)
    (hrun : (execOp a.eval o).run P W = .ok (.value (.pointer (some ⟨W.heap.size, 0, none⟩))) (W.alloc (.cells cs t (0, 0))))
    (h : ∀ g w1, Aside0 (W.heap.size ≤ g) → Aside0 (w.heap.size ≤ g) → Blk w1 g cs t → BelowH w w1 → Aside0 (Below W.heap.size W w1) → Aside0 (KeepsOthers W w1) → wpListIn F n P ops Q rest (a.put o.dst (.pointer (some ⟨g, 0, none⟩))) w1) : wpListIn F n P ops Q (o :: rest) a W :=
  event_runIn hp hgd hrun (h _ _ ⟨Nat.le_refl _⟩ ⟨HB.le⟩ ⟨blk_new W _⟩ (HB.step (below_alloc (Below.refl _ _) _)) ⟨below_alloc (Below.refl _ _) _⟩ ⟨KeepsOthers.alloc W _⟩)
/-- A whole array out of its block. -/
theorem ev_loadIn {g : Nat} {cs : Array Value} {t : TypeId} (B : Blk W g cs t) (hgd : o.guard = none) (ty : TypeId) (x : Operand) (ho : o.op = .load ty x) (hx : a.eval x = .pointer (some ⟨g, 0, none⟩))
    {m : Nat} {e : TypeId} (hu : P.underlying ty = some (.array m e)) (hi : (P.info? ty).map (·.size) = some cs.size)
    (h : wpListIn F n P ops Q rest (a.put o.dst (.agg cs)) W) : wpListIn F n P ops Q (o :: rest) a W := by
  refine event_runIn (by simp [Oper.plainOp, ho]) hgd (v := .agg cs) (w1 := W) ?_ h
  have := run_loadVar_row (P := P) W g t ty cs (0, 0) _ B.out hu rfl hi
  unfold execOp
  simp [ho, hx, Instr.loadAt, Instr.sureAddr, this, Result.andThen]
/-- A struct out of its block. -/
theorem ev_loadSIn {g : Nat} {cs : Array Value} {t : TypeId} (B : Blk W g cs t) (hgd : o.guard = none) (ty : TypeId) (x : Operand) (ho : o.op = .load ty x) (hx : a.eval x = .pointer (some ⟨g, 0, none⟩))
    {d : TypeDesc} (hu : P.underlying ty = some d) (hd : (match d with | .struct _ | .array _ _ => true | _ => false) = true) (hi : (P.info? ty).map (·.size) = some cs.size)
    (h : wpListIn F n P ops Q rest (a.put o.dst (.agg cs)) W) : wpListIn F n P ops Q (o :: rest) a W := by
  refine event_runIn (by simp [Oper.plainOp, ho]) hgd (v := .agg cs) (w1 := W) ?_ h
  have := run_loadVar_row (P := P) W g t ty cs (0, 0) _ B.out hu hd hi
  unfold execOp
  simp [ho, hx, Instr.loadAt, Instr.sureAddr, this, Result.andThen]
theorem keepsOthers_setRow (W : World) {g : Nat} {old cs : Array Value} {t : TypeId} (B : Blk W g old t) : KeepsOthers W (W.setRow g cs) :=
  ⟨Nat.le_of_eq (setRow_size W g cs).symm, fun k o hk ho => by
    by_cases e : k = g
    · subst e
      rw [B.out] at hk
      cases hk
      cases ho
    · rw [setRow_other W g k cs e]; exact hk⟩
/-- A whole array into its block. -/
theorem ev_storeIn {w : World} (HB : BelowH w W) {g : Nat} {old cs : Array Value} {t : TypeId} (B : Blk W g old t) (GE : Aside0 (w.heap.size ≤ g)) (hgd : o.guard = none) (ty : TypeId) (x y : Operand) (ho : o.op = .store ty x y) (hx : a.eval x = .pointer (some ⟨g, 0, none⟩)) (hy : a.eval y = .agg cs)
    (hi : (P.info? ty).map (·.size) = some cs.size) (hold : old.size = cs.size) (h1 : cs.all (·.oneCell') = true)
    (h : ∀ w1, Blk w1 g cs t → BelowH w w1 → Aside0 (W.heap.size ≤ w1.heap.size ∧ ∀ k, k ≠ g → w1.heap[k]? = W.heap[k]?) → Aside0 (KeepsOthers W w1) → wpListIn F n P ops Q rest (a.put o.dst undef) w1) : wpListIn F n P ops Q (o :: rest) a W := by
  refine event_skipIn (by simp [Oper.plainOp, ho]) hgd (w1 := W.setRow g cs) ?_ (h _ (B.row cs) (HB.row GE.out cs) ⟨Nat.le_of_eq (setRow_size W g cs).symm, fun k hk => setRow_other W g k cs hk⟩ ⟨keepsOthers_setRow W B⟩)
  have := run_storeVar_row (P := P) W g t ty old cs B.out hi hold h1
  unfold execOp
  simp [ho, hx, hy, Instr.storeAt, Instr.sureAddr, this, Result.andThen]
/-- One cell into its block. -/
theorem ev_store1In {w : World} (HB : BelowH w W) {g i : Nat} {cs : Array Value} {t : TypeId} (B : Blk W g cs t) (GE : Aside0 (w.heap.size ≤ g)) (hgd : o.guard = none) (ty : TypeId) (x y : Operand) (ho : o.op = .store ty x y) (hx : a.eval x = .pointer (some ⟨g, i, none⟩)) (v : Value) (hy : a.eval y = v)
    (hi : i < cs.size) (hs : (P.info? ty).map (·.size) = some 1) (hv : v.oneCell' = true)
    (h : ∀ w1, Blk w1 g (cs.setIfInBounds i v) t → BelowH w w1 → Aside0 (W.heap.size ≤ w1.heap.size ∧ ∀ k, k ≠ g → w1.heap[k]? = W.heap[k]?) → Aside0 (KeepsOthers W w1) → wpListIn F n P ops Q rest (a.put o.dst undef) w1) : wpListIn F n P ops Q (o :: rest) a W := by
  refine event_skipIn (by simp [Oper.plainOp, ho]) hgd (w1 := W.setRow g (cs.setIfInBounds i v)) ?_ (h _ (B.row _) (HB.row GE.out _) ⟨Nat.le_of_eq (setRow_size W g _).symm, fun k hk => setRow_other W g k _ hk⟩ ⟨keepsOthers_setRow W B⟩)
  have := run_store1 (P := P) B hi ty v hs hv
  unfold execOp
  simp [ho, hx, hy, Instr.storeAt, Instr.sureAddr, this, Result.andThen]
end
/-- Two blocks are kept as they are: those that an iterator reads between two rounds. -/
def Keep2 (g1 g2 : Nat) (W W' : World) : Prop := W'.heap[g1]? = W.heap[g1]? ∧ W'.heap[g2]? = W.heap[g2]? ∧ W.heap.size ≤ W'.heap.size
theorem Keep2.trans {g1 g2 : Nat} {A B C : World} (h : Keep2 g1 g2 A B) (k : Keep2 g1 g2 B C) : Keep2 g1 g2 A C := ⟨k.1.trans h.1, k.2.1.trans h.2.1, Nat.le_trans h.2.2 k.2.2⟩
theorem Keep2.putObj {g1 g2 m : Nat} (h1 : g1 < m) (h2 : g2 < m) (W : World) (l : Nat) (o o' : Obj) (hl : m ≤ l) (_ : W.heap[l]? = some o) (_ : o.isCells = false) (_ : o.isWalk = false) : Keep2 g1 g2 W (W.putObj l o') :=
  ⟨World.putObj_heap_other (by omega), World.putObj_heap_other (by omega), by simp⟩
theorem Keep2.below {g1 g2 : Nat} {W W' : World} (h : Below W.heap.size W W') (h1 : g1 < W.heap.size) (h2 : g2 < W.heap.size) : Keep2 g1 g2 W W' := ⟨h.block _ h1, h.block _ h2, h.size⟩
theorem Keep2.other {g1 g2 g : Nat} {W W' : World} (K : Aside0 (W.heap.size ≤ W'.heap.size ∧ ∀ k, k ≠ g → W'.heap[k]? = W.heap[k]?)) (h1 : g1 ≠ g) (h2 : g2 ≠ g) : Keep2 g1 g2 W W' := ⟨K.out.2 _ h1, K.out.2 _ h2, K.out.1⟩
/-- A block of cells abides what turns no cells. -/
theorem Blk.kept {W W' : World} {g : Nat} {cs : Array Value} {t : Nat} (B : Blk W g cs t) {row : Option Nat} (hg : W.grownBy W' row) (hr : ∀ r, row = some r → ∃ o : Obj, W.heap[r]? = some o ∧ o.isCells = false) : Blk W' g cs t :=
  ⟨(hg.block g B.lt (fun e => by obtain ⟨o, ho, hc⟩ := hr g e.symm; rw [B.out] at ho; cases ho; cases hc)).trans B.out⟩
/-- What lay ahead of B abides what turns blocks from B on alone. -/
theorem BelowH.kept {w W W' : World} (h : BelowH w W) {row : Option Nat} (hg : W.grownBy W' row) {B : Nat} (hB : w.heap.size ≤ B) (hr : ∀ r, row = some r → B ≤ r) : BelowH w W' :=
  ⟨h.out.grown hg h.le (fun k e => Nat.le_trans hB (hr k e))⟩
/-- A block of another type is no row's. -/
theorem Blk.not_row {W : World} {g : Nat} {cs : Array Value} {t e : TypeId} (B : Blk W g cs t) (hte : t ≠ e) {base size k : Nat} {v : Value} {xs : List Value} (h : W.ownsRow base e size v k xs) : some g ≠ v.ownBlock := by
  intro he
  rcases h.2 with ⟨rfl, _⟩ | ⟨g', cap, cur, rfl, _, hgb, _⟩
  · simp [Value.ownBlock] at he
  · simp [Value.ownBlock] at he
    subst he
    rw [B.out] at hgb
    cases hgb
    exact hte rfl
theorem keepsOthers_below {W W' : World} (h : Below W.heap.size W W') : KeepsOthers W W' := ⟨h.size, fun k _ hk _ => (h.block k (Array.getElem?_eq_some_iff.1 hk).1).trans hk⟩
theorem keepsOthers_row {W W' : World} {base e size k : Nat} {v : Value} {xs : List Value} (hrow : W.ownsRow base e size v k xs) (hg : W.grownBy W' v.ownBlock) : KeepsOthers W W' :=
  KeepsOthers.of_grownBy hg fun j o ej hj => by
    rcases hrow.2 with ⟨rfl, _⟩ | ⟨g, cap, cur, rfl, _, hgb, _⟩
    · simp [Value.ownBlock] at ej
    · simp [Value.ownBlock] at ej
      subst ej
      rw [hgb] at hj
      cases hj
      rfl
/-- An owned row abides what turns another block. -/
theorem row_other {W W' : World} {base e size k g t : Nat} {cs : Array Value} {v : Value} {xs : List Value} (h : W.ownsRow base e size v k xs) (B : Blk W g cs t) (hte : t ≠ e) (K : Aside0 (W.heap.size ≤ W'.heap.size ∧ ∀ k, k ≠ g → W'.heap[k]? = W.heap[k]?)) : W'.ownsRow base e size v k xs := by
  have hne := B.not_row hte h
  refine ⟨h.1, ?_⟩
  rcases h.2 with h0 | ⟨g', cap, cur, rfl, hb, hgb, hrest⟩
  · exact .inl h0
  · refine .inr ⟨g', cap, cur, rfl, hb, ?_, hrest⟩
    rw [K.out.2 g' (fun e' => hne (by rw [← e']; rfl))]
    exact hgb
theorem row_below {W W' : World} {base e size k : Nat} {v : Value} {xs : List Value} (h : W.ownsRow base e size v k xs) (hb : Below W.heap.size W W') : W'.ownsRow base e size v k xs :=
  h.kept (row := none) ⟨hb.os, hb.tape, hb.output, hb.size, fun k hk _ => hb.block k hk⟩ (by cases h : v.ownBlock with | none => exact .inl rfl | some k => exact .inr (by simp))
/-- An owned row abides what turns no cells. -/
theorem row_kept {W W' : World} {base e size k : Nat} {v : Value} {xs : List Value} (h : W.ownsRow base e size v k xs) {row : Option Nat} (hg : W.grownBy W' row) (hr : ∀ r, row = some r → ∃ o : Obj, W.heap[r]? = some o ∧ o.isCells = false) : W'.ownsRow base e size v k xs := by
  refine h.kept hg ?_
  rcases h.2 with ⟨rfl, _⟩ | ⟨g, cap, cur, rfl, _, hgb, _⟩
  · exact .inl rfl
  · refine .inr fun e' => ?_
    obtain ⟨o, ho, hc⟩ := hr g (by rw [← e']; rfl)
    rw [hgb] at ho
    cases ho
    cases hc
section
variable {F : Fence} {n : Nat} {P : Program} {ops : Array Oper} {rest : List Oper} {o : Oper} {a : Act} {Q : Exit → Act → World → Prop} {W : World}
/-- A literal of one element. -/
theorem ev_lit1In {w : World} (HB : BelowH w W) (hp : Oper.plainOp o = true) (hgd : o.guard = none) (u : Value) (e : TypeId)
    (hrun : (execOp a.eval o).run P W = .ok (.value (.slice (some ⟨W.heap.size, 0, none⟩) 1 1)) (W.alloc (.cells #[u] e (0, 0))))
    (h : ∀ g w1, Aside0 (W.heap.size ≤ g) → Blk w1 g #[u] e → BelowH w w1 → Aside0 (Below W.heap.size W w1) → Aside0 (KeepsOthers W w1) → wpListIn F n P ops Q rest (a.put o.dst (.slice (some ⟨g, 0, none⟩) 1 1)) w1) : wpListIn F n P ops Q (o :: rest) a W :=
  event_runIn hp hgd hrun (h _ _ ⟨Nat.le_refl _⟩ ⟨blk_new W _⟩ (HB.step (below_alloc (Below.refl _ _) _)) ⟨below_alloc (Below.refl _ _) _⟩ ⟨KeepsOthers.alloc W _⟩)
/-- 'append(v, u)': v a row of the call's own. -/
theorem ev_append1In {w : World} (HB : BelowH w W) (hgd : o.guard = none) (s x : Operand) (t e : TypeId) (z : Value) (bytes : Nat) (hop : o.op = .call { callee := .builtin .append, args := #[s, x], argTypes := #[t, t] })
    (h1 : P.underlying t = some (.slice e)) (hinfo : (P.info? e).map (fun i => (i.zero, i.size, i.bytes)) = some (some z, 1, bytes)) (hz : z.cells.size = 1) (hb0 : 0 < bytes)
    (v : Value) (k : Nat) (xs : List Value) (hs : a.eval s = v) (hrow : W.ownsRow w.heap.size e 1 v k xs) (g : Nat) (u : Value) (hx : a.eval x = .slice (some ⟨g, 0, none⟩) 1 1) {t' : TypeId} (B : Blk W g #[u] t') (h1c : u.oneCell' = true) (b : (k + 1) * bytes ≤ 140737488355328)
    (h : ∀ v1 w1, w1.ownsRow w.heap.size e 1 v1 (k + 1) (xs ++ [u]) → BelowH w w1 → Aside0 (W.heap.size ≤ w1.heap.size ∧ ∀ j, j < W.heap.size → some j ≠ v.ownBlock → w1.heap[j]? = W.heap[j]?) → Aside0 (KeepsOthers W w1) → Aside0 (∃ g' cap', v1 = .slice (some ⟨g', 0, none⟩) (k + 1) cap') → wpListIn F n P ops Q rest (a.put o.dst v1) w1) :
    wpListIn F n P ops Q (o :: rest) a W := by
  obtain ⟨i, h2, h3, h4, h5⟩ := info_parts hinfo
  have hk : k + 1 ≤ (k + 1) * bytes := Nat.le_mul_of_pos_right _ hb0
  refine wpListIn_append_own W hgd s x t hop w.heap.size e i z 1 bytes h1 h2 h3 h4 h5 hz (by decide) v k xs hs hrow ⟨g, 0, none⟩ 1 1 [u] hx rfl ?_ ?_ (by unfold maxLen; omega) b HB.le ?_
  · intro j u' hj
    cases j with
    | zero =>
      simp at hj
      subst hj
      exact B.cell (i := 0) rfl
    | succ j => simp at hj
  · intro u' hu
    rw [List.mem_singleton.1 hu]
    exact h1c
  · intro v1 w1 hown hg _
    obtain ⟨g', cap', e1⟩ := ownsRow_succ hown
    exact h v1 w1 hown ⟨HB.out.grown hg HB.le (fun j ej => (hrow.lt j ej).1)⟩ ⟨hg.size, fun j hj hne => hg.block j hj hne⟩ ⟨keepsOthers_row hrow hg⟩ ⟨g', cap', e1⟩
end
theorem Blk.appended {W w1 : World} {g : Nat} {cs : Array Value} {t e base k : Nat} {v : Value} {xs : List Value} (B : Blk W g cs t) (hte : t ≠ e) (hrow : W.ownsRow base e 1 v k xs)
    (K : Aside0 (W.heap.size ≤ w1.heap.size ∧ ∀ j, j < W.heap.size → some j ≠ v.ownBlock → w1.heap[j]? = W.heap[j]?)) : Blk w1 g cs t := ⟨(K.out.2 g B.lt (B.not_row hte hrow)).trans B.out⟩
theorem row_one {W : World} {base e size k : Nat} {v : Value} {xs : List Value} (h : W.ownsRow base e size v k xs) : v.oneCell' = true := by
  rcases h.2 with ⟨rfl, _⟩ | ⟨g, cap, cur, rfl, _⟩ <;> rfl
/-- Several blocks that stay as they are. -/
structure Blks (L : List (Nat × Array Value × Nat)) (W : World) : Prop where mk :: (out : ∀ b ∈ L, Blk W b.1 b.2.1 b.2.2)
theorem Blks.below {L : List (Nat × Array Value × Nat)} {W W' : World} (h : Blks L W) (hb : Below W.heap.size W W') : Blks L W' := ⟨fun b m => (h.out b m).below hb⟩
theorem Blks.other {L : List (Nat × Array Value × Nat)} {W W' : World} {g : Nat} (h : Blks L W) (K : Aside0 (W.heap.size ≤ W'.heap.size ∧ ∀ k, k ≠ g → W'.heap[k]? = W.heap[k]?)) (hne : ∀ b ∈ L, b.1 ≠ g) : Blks L W' := ⟨fun b m => (h.out b m).other K (hne b m)⟩
theorem Blks.appended {L : List (Nat × Array Value × Nat)} {W W' : World} {e base k : Nat} {v : Value} {xs : List Value} (h : Blks L W) (hte : ∀ b ∈ L, b.2.2 ≠ e) (hrow : W.ownsRow base e 1 v k xs)
    (K : Aside0 (W.heap.size ≤ W'.heap.size ∧ ∀ j, j < W.heap.size → some j ≠ v.ownBlock → W'.heap[j]? = W.heap[j]?)) : Blks L W' := ⟨fun b m => (h.out b m).appended (hte b m) hrow K⟩
theorem Blks.kept {L : List (Nat × Array Value × Nat)} {W W' : World} (h : Blks L W) {row : Option Nat} (hg : W.grownBy W' row) (hr : ∀ r, row = some r → ∃ o : Obj, W.heap[r]? = some o ∧ o.isCells = false) : Blks L W' := ⟨fun b m => (h.out b m).kept hg hr⟩
theorem Blks.drewN {L : List (Nat × Array Value × Nat)} {W : World} (h : Blks L W) (n : Nat) : Blks L (W.drewN n) := ⟨fun b m => (h.out b m).drewN n⟩
theorem row_drewN {W : World} {base e size k : Nat} {v : Value} {xs : List Value} (h : W.ownsRow base e size v k xs) (n : Nat) : (W.drewN n).ownsRow base e size v k xs := row_below h (pw_below_drewN (Below.refl _ _) n)
theorem keepsOthers_drewN (W : World) (n : Nat) : KeepsOthers W (W.drewN n) := keepsOthers_below (pw_below_drewN (Below.refl _ _) n)
theorem Keep2.of_blk {g1 g2 : Nat} {c1 c2 : Array Value} {t1 t2 : Nat} {W W' : World} (a1 : Blk W g1 c1 t1) (a2 : Blk W g2 c2 t2) (b1 : Blk W' g1 c1 t1) (b2 : Blk W' g2 c2 t2) (hs : W.heap.size ≤ W'.heap.size) : Keep2 g1 g2 W W' :=
  ⟨b1.out.trans a1.out.symm, b2.out.trans a2.out.symm, hs⟩
end Go.Proofs.YtgddljealeklkaaDoorM
end
-- Qf
section
namespace Go.Proofs.YtgddljealeklkaaDoorQ
open Go Go.RowKit Go.Proofs.YtgddljealeklkaaDoorW.PrintWords

/-- Is an odd number of the first n set? -/
def par (q : Nat → Bool) : Nat → Bool
  | 0 => false
  | n + 1 => par q n ^^ q n
theorem par_succ (q : Nat → Bool) (n : Nat) : par q (n + 1) = (par q n ^^ q n) := rfl
theorem par_congr {q r : Nat → Bool} : ∀ n, (∀ i, i < n → q i = r i) → par q n = par r n
  | 0, _ => rfl
  | n + 1, h => by rw [par_succ, par_succ, par_congr n fun i hi => h i (by omega), h n (by omega)]
theorem par_add (q : Nat → Bool) (m : Nat) : ∀ n, par q (m + n) = (par q m ^^ par (fun i => q (m + i)) n)
  | 0 => by simp [par]
  | n + 1 => by rw [← Nat.add_assoc, par_succ, par_add q m n, par_succ, Bool.xor_assoc]
/-- The parity of m bits, up to i. -/
def px (q : Nat → Bool) (m i : Nat) : Bool := par q (i + 1) ^^ par q (i + 1 - m)
theorem px_one (q : Nat → Bool) (i : Nat) : px q 1 i = q i := by
  unfold px
  rw [Nat.add_sub_cancel, par_succ]
  cases par q i <;> simp
theorem px_all (q : Nat → Bool) {i : Nat} (h : i < 64) : px q 64 i = par q (i + 1) := by
  unfold px
  rw [show i + 1 - 64 = 0 by omega]
  simp [par]
theorem px_word (q : Nat → Bool) (m : Nat) (h1 : 1 ≤ m) : word (px q m) ^^^ (word (px q m) <<< m) = word (px q (2 * m)) := by
  apply eq_word
  intro i hi
  rw [BitVec.getLsbD_xor, BitVec.getLsbD_shiftLeft, word_bit, word_bit, decide_eq_true hi, decide_eq_true (show i - m < 64 by omega)]
  unfold px
  by_cases h : i < m
  · rw [decide_eq_true h, show i + 1 - m = 0 by omega, show i + 1 - 2 * m = 0 by omega]
    simp [par]
  · rw [decide_eq_false h, show i - m + 1 = i + 1 - m by omega, show i + 1 - m - m = i + 1 - 2 * m by omega]
    simp
theorem px_step (q : Nat → Bool) (m : Nat) (h1 : 1 ≤ m) (z : Int) (hz : z = 2 ^ m) : bits .xor .u64 (iv (word (px q m))) (IntKind.u64.wrap (iv (word (px q m)) * z)) = iv (word (px q (2 * m))) := by
  subst hz
  rw [wrap_shl, bits_xor, px_word q m h1]
theorem px_start (q : Nat → Bool) : word (px q 1) = word q := word_ext fun i _ => px_one q i
theorem px_end (q : Nat → Bool) : word (px q 64) = word fun i => par q (i + 1) := word_ext fun _ hi => px_all q hi
/-- The state between two words. -/
def openW (o : Bool) : BitVec 64 := word fun _ => o
theorem openW_no : iv (openW false) = 0 := word_none fun _ _ => rfl
theorem in_word (q : Nat → Bool) (o : Bool) : bits .xor .u64 (iv (word (px q 64))) (iv (openW o)) = iv (word fun j => par q (j + 1) ^^ o) := by
  rw [px_end, bits_xor]
  apply congrArg iv
  apply eq_word
  intro i hi
  rw [BitVec.getLsbD_xor, openW, word_bit, word_bit, decide_eq_true hi]
  rfl
theorem top_word (p : Nat → Bool) : iv (word p) / 9223372036854775808 = if p 63 then 1 else 0 := by
  have h : (9223372036854775808 : Int) = 2 ^ 63 := by decide
  rw [h, shr_iv]
  have e : word p >>> 63 = if p 63 then 1#64 else 0#64 := by
    apply BitVec.eq_of_getLsbD_eq
    intro i hi
    rw [BitVec.getLsbD_ushiftRight, word_bit]
    by_cases h0 : i = 0
    · subst h0
      cases p 63 <;> rfl
    · rw [decide_eq_false (by omega)]
      cases p 63 <;> simp [h0]
  rw [e]
  cases p 63 <;> rfl
theorem turn_word (p : Nat → Bool) : IntKind.u64.wrap (-(iv (word p) / 9223372036854775808)) = iv (openW (p 63)) := by
  rw [top_word]
  cases h : p 63
  · rw [openW_no]; rfl
  · have e : openW true = BitVec.allOnes 64 := by
      apply BitVec.eq_of_getLsbD_eq
      intro i hi
      rw [openW, word_bit, BitVec.getLsbD_allOnes]
      simp
    rw [e]
    rfl
/-- The marks of a text. -/
def mkq (s : ByteArray) (i : Nat) : Bool := decide (bt s (i : Int) = 34) && !esc s false i
/-- One word of marks. -/
def stepM (s : ByteArray) (l : List Int) (x : Nat) : List Int := l.set x (bits .andNot .u64 (iv (word fun j => decide (cutF s (64 * (x : Int)) 0 j = 34))) (l.getD x 0))
def foldM (s : ByteArray) {n : Nat} (pre : List (Fin n)) : List Int := pre.foldl (fun l x => stepM s l x.val) (wordsOf s.size (esc s false))
theorem foldM_snoc (s : ByteArray) {n : Nat} (pre : List (Fin n)) (x : Fin n) : foldM s (pre ++ [x]) = stepM s (foldM s pre) x.val := by
  unfold foldM
  rw [List.foldl_append]
  rfl
theorem foldM_length (s : ByteArray) {n : Nat} (pre : List (Fin n)) : (foldM s pre).length = nwords s.size := by
  have : ∀ (pre : List (Fin n)) (l : List Int), (pre.foldl (fun l x => stepM s l x.val) l).length = l.length := by
    intro pre
    induction pre with
    | nil => exact fun _ => rfl
    | cons x pre ih =>
      intro l
      rw [List.foldl_cons, ih]
      unfold stepM
      rw [List.length_set]
  unfold foldM
  rw [this, wordsOf_length]
theorem mark_word (s : ByteArray) (x : Nat) : bits .andNot .u64 (iv (word fun j => decide (cutF s (64 * (x : Int)) 0 j = 34))) (iv (wordAt s.size (esc s false) x)) = iv (wordAt s.size (mkq s) x) := by
  unfold wordAt
  rw [mask_andNot]
  apply congrArg iv
  apply word_ext
  intro j _
  rw [cutF_byteX]
  unfold byteX mkq
  by_cases h : 64 * x + j < s.size
  · rw [if_pos h, decide_eq_true h, Bool.true_and, Bool.true_and]
  · rw [if_neg h, decide_eq_false h]
    rfl
theorem foldM_take (s : ByteArray) : ∀ k, k ≤ nwords s.size → foldM s ((List.finRange (nwords s.size)).take k) = (List.range (nwords s.size)).map fun j => iv (wordAt s.size (if j < k then mkq s else esc s false) j) := by
  intro k
  induction k with
  | zero =>
    intro _
    simp [foldM, wordsOf]
  | succ k ih =>
    intro hk
    rw [finRange_take (nwords s.size) k (by omega), foldM_snoc, ih (by omega)]
    unfold stepM
    rw [List.getD_eq_getElem?_getD, List.getElem?_map, List.getElem?_range (by omega)]
    simp only [Option.map_some, Option.getD_some, Nat.lt_irrefl, if_false]
    rw [mark_word]
    apply List.ext_getElem?
    intro j
    rw [List.getElem?_set, List.getElem?_map, List.getElem?_map, List.length_map, List.length_range]
    by_cases hj : j < nwords s.size
    · rw [List.getElem?_range hj]
      by_cases e : k = j
      · subst e
        rw [if_pos rfl, if_pos hj]
        simp
      · rw [if_neg e]
        by_cases g : j < k
        · simp [g, show j < k + 1 by omega]
        · simp [g, show ¬ j < k + 1 by omega]
    · rw [List.getElem?_eq_none (by rw [List.length_range]; omega)]
      rw [if_neg (by omega)]
      simp
theorem foldM_all (s : ByteArray) : foldM s (List.finRange (nwords s.size)) = wordsOf s.size (mkq s) := by
  have h := foldM_take s (nwords s.size) (Nat.le_refl _)
  rw [List.take_of_length_le (by rw [List.length_finRange]; exact Nat.le_refl _)] at h
  rw [h]
  unfold wordsOf
  apply List.map_congr_left
  intro j hj
  rw [if_pos (List.mem_range.1 hj)]
/-- A row, cut off behind its length. -/
def cutQ (n : Nat) (q : Nat → Bool) (i : Nat) : Bool := decide (i < n) && q i
/-- The words between the marks, those behind the first k as they were. -/
def insL (n : Nat) (q : Nat → Bool) (k : Nat) : List Int := (List.range (nwords n)).map fun j => iv (if j < k then word (fun i => par (cutQ n q) (64 * j + i + 1)) else wordAt n q j)
theorem insL_length (n : Nat) (q : Nat → Bool) (k : Nat) : (insL n q k).length = nwords n := by simp [insL]
theorem insL_zero (n : Nat) (q : Nat → Bool) : insL n q 0 = wordsOf n q := List.map_congr_left fun j _ => by rw [if_neg (by omega)]
theorem insL_at (n : Nat) (q : Nat → Bool) {k : Nat} (h : k < nwords n) : (insL n q k)[k]? = some (iv (wordAt n q k)) := by
  unfold insL
  rw [List.getElem?_map, List.getElem?_range h, Option.map_some, if_neg (by omega)]
theorem insL_step (n : Nat) (q : Nat → Bool) {k : Nat} {v : Int} (hk : k < nwords n) (hv : v = iv (word fun j => par (fun i => cutQ n q (64 * k + i)) (j + 1) ^^ par (cutQ n q) (64 * k))) : (insL n q k).set k v = insL n q (k + 1) := by
  subst hv
  apply List.ext_getElem?
  intro j
  unfold insL
  rw [List.getElem?_set, List.getElem?_map, List.getElem?_map, List.length_map, List.length_range]
  by_cases hj : j < nwords n
  · rw [List.getElem?_range hj]
    by_cases e : k = j
    · subst e
      rw [if_pos rfl, if_pos hj]
      simp only [Option.map_some, Nat.lt_succ_self, if_true]
      refine congrArg (fun w => some (iv w)) (word_ext fun i _ => ?_)
      rw [show 64 * k + i + 1 = 64 * k + (i + 1) by omega, par_add (cutQ n q) (64 * k) (i + 1), Bool.xor_comm]
    · rw [if_neg e]
      by_cases g : j < k
      · simp [g, show j < k + 1 by omega]
      · simp [g, show ¬ j < k + 1 by omega]
  · rw [List.getElem?_eq_none (by rw [List.length_range]; omega), if_neg (by omega)]
    simp
theorem par_next (n : Nat) (q : Nat → Bool) (k : Nat) : (par (fun i => cutQ n q (64 * k + i)) 64 ^^ par (cutQ n q) (64 * k)) = par (cutQ n q) (64 * (k + 1)) := by
  rw [show 64 * (k + 1) = 64 * k + 64 by omega, par_add (cutQ n q) (64 * k) 64, Bool.xor_comm]
/-- Between the marks, the opening one among them. -/
def insq (q : Nat → Bool) (i : Nat) : Bool := par q (i + 1)
theorem ins_cut (n : Nat) (q : Nat → Bool) {i : Nat} (h : i < n) : par (cutQ n q) (i + 1) = insq q i := par_congr _ fun j hj => by
  unfold cutQ
  rw [decide_eq_true (by omega), Bool.true_and]
theorem insL_full (n : Nat) (q : Nat → Bool) (h : n % 64 = 0) : insL n q (nwords n) = wordsOf n (insq q) := List.map_congr_left fun j hj => by
  have hj := List.mem_range.1 hj
  rw [if_pos hj]
  apply congrArg iv
  apply word_ext
  intro i hi
  have : 64 * j + i < n := by unfold nwords at hj; omega
  rw [ins_cut n q this, decide_eq_true this, Bool.true_and]
theorem insL_part (n : Nat) (q : Nat → Bool) (h : 0 < n % 64) {v : Int} (hv : v = bits .and .u64 ((insL n q (nwords n)).getD (nwords n - 1) 0) (IntKind.u64.wrap (IntKind.u64.wrap (2 ^ (n % 64)) - 1))) :
    (insL n q (nwords n)).set (nwords n - 1) v = wordsOf n (insq q) := by
  have hw : 0 < nwords n := by unfold nwords; omega
  subst hv
  apply List.ext_getElem?
  intro j
  rw [List.getElem?_set, insL_length]
  unfold insL wordsOf
  rw [List.getElem?_map, List.getElem?_map]
  by_cases hj : j < nwords n
  · rw [List.getElem?_range hj]
    by_cases e : nwords n - 1 = j
    · rw [if_pos e, if_pos (show nwords n - 1 < nwords n by omega), List.getD_eq_getElem?_getD, List.getElem?_map, List.getElem?_range (by omega)]
      simp only [Option.map_some, Option.getD_some]
      rw [if_pos (show nwords n - 1 < nwords n by omega), mask_word _ _ (Nat.mod_lt _ (by decide)), e]
      unfold wordAt
      apply congrArg (fun w => some (iv w))
      apply word_ext
      intro i hi
      have hn : n = 64 * j + n % 64 := by unfold nwords at e hw hj; omega
      by_cases g : i < n % 64
      · rw [decide_eq_true g, Bool.true_and, decide_eq_true (show 64 * j + i < n by omega), Bool.true_and, ins_cut n q (by omega)]
      · rw [decide_eq_false g, decide_eq_false (show ¬ 64 * j + i < n by omega), Bool.false_and, Bool.false_and]
    · rw [if_neg e]
      simp only [Option.map_some]
      rw [if_pos hj]
      apply congrArg (fun w => some (iv w))
      apply word_ext
      intro i hi
      have : 64 * j + i < n := by unfold nwords at hj e; omega
      rw [ins_cut n q this, decide_eq_true this, Bool.true_and]
  · rw [List.getElem?_eq_none (by rw [List.length_range]; omega), if_neg (by omega)]
    simp
end Go.Proofs.YtgddljealeklkaaDoorQ
end
-- Me
section
namespace Go.Proofs.YtgddljealeklkaaDoorM
open Go Go.RowKit Go.Lib Go.Proofs.YtgddljealeklkaaDoorW.PrintWords Go.Proofs.YtgddljealeklkaaDoorW.PrintLast Go.Proofs.YtgddljealeklkaaDoorW.PrintMore
section
variable {P : Program} {ops : Array Oper} {o : Oper} {a : Act} {K : Act → World → Prop} {Q : Exit → Act → World → Prop} {W : World} {S : World → Prop}
theorem rg_load {g : Nat} {cs : Array Value} {t : TypeId} (hw : Region.wanted o (yielded ops a.tmps) = true) (hB : ∀ W, S W → Blk W g cs t) (ty : TypeId) (x : Operand) (ho : o.op = .load ty x) (hx : a.eval x = .pointer (some ⟨g, 0, none⟩))
    {d : TypeDesc} (hu : P.underlying ty = some d) (hd : (match d with | .struct _ | .array _ _ => true | _ => false) = true) (hi : (P.info? ty).map (·.size) = some cs.size) : YieldsIf P ops S o (.agg cs) a :=
  .inl ⟨hw, fun W hS => by
    have := run_loadVar_row (P := P) W g t ty cs (0, 0) _ (hB W hS).out hu hd hi
    unfold execOp
    simp [ho, hx, Instr.loadAt, Instr.sureAddr, this, Result.andThen]⟩
theorem rg_alloc {w : World} (HB : BelowH w W) (hw : Region.wanted o (yielded ops a.tmps) = true) (cs : Array Value) (t : TypeId)
    (hrun : (execOp a.eval o).run P W = .ok (.value (.pointer (some ⟨W.heap.size, 0, none⟩))) (W.alloc (.cells cs t (0, 0))))
    (h : ∀ g w1, Aside0 (W.heap.size ≤ g) → Aside0 (w.heap.size ≤ g) → Blk w1 g cs t → BelowH w w1 → Aside0 (Below W.heap.size W w1) → K (a.put o.dst (.pointer (some ⟨g, 0, none⟩))) w1) :
    if Region.wanted o (yielded ops a.tmps) = true then Oper.wp P o a W K Q else K (a.put o.dst undef) W := by
  rw [if_pos hw]
  unfold Oper.wp
  rw [hrun]
  exact h _ _ ⟨Nat.le_refl _⟩ ⟨HB.le⟩ ⟨blk_new W _⟩ (HB.step (below_alloc (Below.refl _ _) _)) ⟨below_alloc (Below.refl _ _) _⟩
theorem rg_store {w : World} (HB : BelowH w W) (hw : Region.wanted o (yielded ops a.tmps) = true) {g : Nat} {old cs : Array Value} {t : TypeId} (B : Blk W g old t) (GE : Aside0 (w.heap.size ≤ g)) (ty : TypeId) (x y : Operand) (ho : o.op = .store ty x y) (hx : a.eval x = .pointer (some ⟨g, 0, none⟩)) (hy : a.eval y = .agg cs)
    (hi : (P.info? ty).map (·.size) = some cs.size) (hold : old.size = cs.size) (h1 : cs.all (·.oneCell') = true)
    (h : ∀ w1, Blk w1 g cs t → BelowH w w1 → Aside0 (W.heap.size ≤ w1.heap.size ∧ ∀ k, k ≠ g → w1.heap[k]? = W.heap[k]?) → K (a.put o.dst undef) w1) :
    if Region.wanted o (yielded ops a.tmps) = true then Oper.wp P o a W K Q else K (a.put o.dst undef) W := by
  rw [if_pos hw]
  have := run_storeVar_row (P := P) W g t ty old cs B.out hi hold h1
  have hr : (execOp a.eval o).run P W = .ok .skip (W.setRow g cs) := by
    unfold execOp
    simp [ho, hx, hy, Instr.storeAt, Instr.sureAddr, this, Result.andThen]
  unfold Oper.wp
  rw [hr]
  exact h _ (B.row cs) (HB.row GE.out cs) ⟨Nat.le_of_eq (setRow_size W g cs).symm, fun k hk => setRow_other W g k cs hk⟩
theorem rg_call (hw : Region.wanted o (yielded ops a.tmps) = true) (f : FuncId) (args : Array Value) (v : Value) (hrun : (execOp a.eval o).run P W = .ok (.enter f args) W)
    (hc : Calls P f args W fun e w' => e = .returned v ∧ Below W.heap.size W w') (h : ∀ w', Aside0 (Below W.heap.size W w') → K (a.put o.dst v) w') :
    if Region.wanted o (yielded ops a.tmps) = true then Oper.wp P o a W K Q else K (a.put o.dst undef) W := by
  rw [if_pos hw]
  unfold Oper.wp
  rw [hrun, Oper.upon_enter]
  refine hc.mono ?_
  rintro e w' ⟨rfl, hb⟩
  exact h w' ⟨hb⟩
/-- '[]T{x}': a new block of one cell. -/
theorem rg_lit {w : World} (HB : BelowH w W) (hw : Region.wanted o (yielded ops a.tmps) = true) (u : Value) (e : TypeId)
    (hrun : (execOp a.eval o).run P W = .ok (.value (.slice (some ⟨W.heap.size, 0, none⟩) 1 1)) (W.alloc (.cells #[u] e (0, 0))))
    (h : ∀ g w1, Blk w1 g #[u] e → BelowH w w1 → Aside0 (Below W.heap.size W w1) → K (a.put o.dst (.slice (some ⟨g, 0, none⟩) 1 1)) w1) :
    if Region.wanted o (yielded ops a.tmps) = true then Oper.wp P o a W K Q else K (a.put o.dst undef) W := by
  rw [if_pos hw]
  unfold Oper.wp
  rw [hrun]
  exact h _ _ ⟨blk_new W _⟩ (HB.step (below_alloc (Below.refl _ _) _)) ⟨below_alloc (Below.refl _ _) _⟩
/-- 'string(b)', b of one byte. -/
theorem rg_str1 (hw : Region.wanted o (yielded ops a.tmps) = true) {g : Nat} {e : TypeId} {b : UInt8} (B : Blk W g #[.int .u8 (b.toNat : Int)] e) (src dst eb : TypeId) (x : Operand) (ho : o.op = .convert src dst x) (hx : a.eval x = .slice (some ⟨g, 0, none⟩) 1 1)
    (hs : P.underlying src = some (.slice eb)) (he : P.underlying eb = some (.int .u8)) (hd : P.underlying dst = some .string)
    (h : K (a.put o.dst (.string ⟨#[b]⟩)) W) : if Region.wanted o (yielded ops a.tmps) = true then Oper.wp P o a W K Q else K (a.put o.dst undef) W := by
  rw [if_pos hw]
  have hc := run_convert_bytes_back (P := P) W src dst eb ⟨g, 0, none⟩ 1 [b] hs he hd (fun j hj => by
    obtain rfl : j = 0 := by simpa using hj
    exact B.cell (i := 0) rfl)
  have hr : (execOp a.eval o).run P W = .ok (.value (.string ⟨#[b]⟩)) W := by
    unfold execOp
    simp only [ho, hx, Sem.run_bind]
    rw [show ([b] : List UInt8).length = 1 from rfl] at hc
    simp [hc, Result.andThen]
  unfold Oper.wp
  rw [hr]
  exact h
end
end Go.Proofs.YtgddljealeklkaaDoorM
end
-- Mg
section
namespace Go.Proofs.YtgddljealeklkaaDoorM
open Go Go.RowKit Go.Lib Go.Proofs.YtgddljealeklkaaDoorW.PrintWords Go.Proofs.YtgddljealeklkaaDoorW.PrintLast Go.Proofs.YtgddljealeklkaaDoorW.PrintMore
section
variable {n l : Nat} {P : Program} {ops : Array Oper} {Q : Exit → Act → World → Prop} {md : Region.Mode} {S : World → Prop} {a : Act} {w W : World}
/-- Nothing but the straight way out. -/
def Straight (Q : Exit → Act → World → Prop) : Exit → Act → World → Prop
  | .normal, a, w => Q .normal a w
  | _, _, _ => False
theorem Straight.normal (h : Q .normal a w) : Straight Q .normal a w := h
theorem oper_wpIn_of {o : Oper} (hd : ∀ c, o.op ≠ .defer c) {K : Act → World → Prop} (h : o.wp P a w K (Straight Q)) : o.wpIn (Fence.wide.inRound l) n P a w K Q := by
  refine ⟨fun _ _ => trivial, ?_⟩
  rw [Oper.semAt_eq _ _ _ hd]
  unfold Oper.wp at h
  generalize (execOp a.eval o).run P w = r at *
  cases r with
  | ok x w' =>
    cases x with
    | value v => exact h
    | skip => exact h
    | defer d => exact h
    | enter f args =>
      rw [Oper.upon_enter] at h
      rw [Oper.uponIn_enter]
      refine ⟨fun hx => by simp [Fence.wide] at hx, (CallsIn.inRound l (callsIn_wide.2 h)).mono ?_⟩
      intro e w'' he
      cases e with
      | returned v => exact he
      | panicked c => exact he.elim
      | outgrown => obtain ⟨a1, w1, h1⟩ := he; exact h1.elim
    | row r args =>
      rw [Oper.upon_row] at h
      rw [Oper.uponIn_row]
      exact ⟨fun hx => by simp [Fence.wide] at hx, fun c cs _ => let ⟨v, w', r, s⟩ := h c cs; ⟨v, w', r, stepsIn_wide.2 s⟩⟩
    | _ => exact h.elim
  | halt x w' => cases x <;> first | exact h.elim | exact (h : False).elim
/-- No operation of the region is deferred. -/
def noDefer (ops : Array Oper) : Bool := ops.all fun o => match o.op with | .defer _ => false | _ => true
theorem noDefer_spec (h : noDefer ops = true) (i : Nat) (o : Oper) (hi : ops[i]? = some o) (c : _) : o.op ≠ .defer c := by
  intro e
  have hm : o ∈ ops := Array.mem_of_getElem? hi
  have := (Array.all_eq_true'.1 h) o hm
  rw [e] at this
  cases this
end
section
variable {n l : Nat} {P : Program} {ops : Array Oper} {Q : Exit → Act → World → Prop} {md : Region.Mode} {S : World → Prop} {ds : List Nat} {a : Act} {w : World}
theorem wpAnyIn_of_last (hd : ∀ (i : Nat) (o : Oper), ops[i]? = some o → ∀ c, o.op ≠ .defer c) : ∀ (fuel : Nat) (listed : Array Bool) (a : Act) (w : World), wpAnyLast P md ops (Straight Q) S ds fuel listed a w → wpAnyIn (Fence.wide.inRound l) n P md ops Q fuel listed a w
  | 0, _, _, _, h => h
  | fuel + 1, listed, a, w, h => ⟨h.1, fun i hi => by
    have h1 := h.2 i hi
    unfold wpOp at h1
    unfold wpOpIn
    cases ho : ops[i]? with
    | none =>
      simp only [ho] at h1
      exact wpAnyIn_of_last hd fuel _ a w h1.2
    | some o =>
      simp only [ho] at h1 ⊢
      split
      · rename_i hw
        rw [if_pos hw] at h1
        rcases h1 with h1 | ⟨_, a1, w1, h1⟩
        · exact Oper.wpIn_mono (fun a' w' h' => wpAnyIn_of_last hd fuel _ a' w' h'.2) (oper_wpIn_of (hd i o ho) h1)
        · exact h1.elim
      · rename_i hw
        rw [if_neg hw] at h1
        exact ⟨fun _ _ => trivial, wpAnyIn_of_last hd fuel _ _ w h1.2⟩⟩
/-- The beginning, inside a round. -/
theorem wpIn_region_last_drew {F : Fence} (HF : Aside0 (F = Fence.wide)) {id : Nat} (hm : P.follows .mixedOrders = true) (hd : noDefer ops = true) (hS : S w.drew)
    (h : S w.drew → wpAnyLast P .any ops (Straight Q) S ds ops.size (Array.replicate ops.size false) a w.drew) : (Code.region id ops true).wpIn (F.inRound l) n P Q a w := by
  obtain ⟨rfl⟩ := HF
  exact wpIn_region_any hm (wpAnyIn_of_last (noDefer_spec hd) _ _ _ _ (h hS))
/-- The same outside of a round, in the widest fence. -/
theorem wpIn_region_last_wide {F : Fence} (HF : Aside0 (F = Fence.wide)) {id : Nat} (hm : P.follows .mixedOrders = true) (hS : S w.drew)
    (h : S w.drew → wpAnyLast P .any ops (NoPanic Q) S ds ops.size (Array.replicate ops.size false) a w.drew) : (Code.region id ops true).wpIn F n P Q a w := by
  obtain ⟨rfl⟩ := HF
  exact wpIn_wide.2 (wp_region_noPanic (wp_region_last_drew hm hS h))
end
section
variable {P : Program} {ops : Array Oper} {o : Oper} {a : Act} {K : Act → World → Prop} {Q : Exit → Act → World → Prop} {W : World} {S : World → Prop}
/-- One cell out of its block. -/
theorem rg_load1 {g i : Nat} {v : Value} (hw : Region.wanted o (yielded ops a.tmps) = true) (hB : ∀ W, S W → W.cell? ⟨g, i, none⟩ = some v) (ty : TypeId) (x : Operand) (ho : o.op = .load ty x) (hx : a.eval x = .pointer (some ⟨g, i, none⟩))
    (hagg : ∀ W, (isAgg ty).run P W = .ok false W) : YieldsIf P ops S o v a :=
  .inl ⟨hw, fun W hS => by
    have h1 := hB W hS
    have : (loadVar ty ⟨g, i, none⟩).run P W = .ok v W := by simp [loadVar, Sem.run_bind, hagg, load, Sem.run, h1]
    unfold execOp
    simp [ho, hx, Instr.loadAt, Instr.sureAddr, this, Result.andThen]⟩
/-- One cell into its block. -/
theorem rg_store1 {w : World} (HB : BelowH w W) (hw : Region.wanted o (yielded ops a.tmps) = true) {g i : Nat} {cs : Array Value} {t : TypeId} (B : Blk W g cs t) (GE : Aside0 (w.heap.size ≤ g)) (ty : TypeId) (x y : Operand) (ho : o.op = .store ty x y) (hx : a.eval x = .pointer (some ⟨g, i, none⟩)) (v : Value) (hy : a.eval y = v)
    (hi : i < cs.size) (hs : (P.info? ty).map (·.size) = some 1) (hv : v.oneCell' = true)
    (h : ∀ w1, Blk w1 g (cs.setIfInBounds i v) t → BelowH w w1 → Aside0 (W.heap.size ≤ w1.heap.size ∧ ∀ k, k ≠ g → w1.heap[k]? = W.heap[k]?) → K (a.put o.dst undef) w1) :
    if Region.wanted o (yielded ops a.tmps) = true then Oper.wp P o a W K Q else K (a.put o.dst undef) W := by
  rw [if_pos hw]
  have := run_store1 (P := P) B hi ty v hs hv
  have hr : (execOp a.eval o).run P W = .ok .skip (W.setRow g (cs.setIfInBounds i v)) := by
    unfold execOp
    simp [ho, hx, hy, Instr.storeAt, Instr.sureAddr, this, Result.andThen]
  unfold Oper.wp
  rw [hr]
  exact h _ (B.row _) (HB.row GE.out _) ⟨Nat.le_of_eq (setRow_size W g _).symm, fun k hk => setRow_other W g k _ hk⟩
end
section
variable {P : Program} {ops : Array Oper} {o : Oper} {a : Act} {K : Act → World → Prop} {Q : Exit → Act → World → Prop} {W : World}
/-- A call, by a contract of any form. -/
theorem rg_callP {Φ : World → Prop} (hw : Region.wanted o (yielded ops a.tmps) = true) (f : FuncId) (args : Array Value) (v : Value) (hrun : (execOp a.eval o).run P W = .ok (.enter f args) W)
    (hc : Calls P f args W fun e w' => e = .returned v ∧ Φ w') (h : ∀ w', Aside0 (Φ w') → K (a.put o.dst v) w') :
    if Region.wanted o (yielded ops a.tmps) = true then Oper.wp P o a W K Q else K (a.put o.dst undef) W := by
  rw [if_pos hw]
  unfold Oper.wp
  rw [hrun, Oper.upon_enter]
  refine hc.mono ?_
  rintro e w' ⟨rfl, hb⟩
  exact h w' ⟨hb⟩
end
section
variable {W w1 : World} {g base k : Nat} {cs : Array Value} {t e : TypeId} {v : Value} {xs : List Value}
theorem Blk.ne {g' : Nat} {cs' : Array Value} {t' : TypeId} (A : Blk W g cs t) (B : Blk W g' cs' t') (h : t ≠ t') : g ≠ g' := by
  intro e'
  subst e'
  have := A.out.symm.trans B.out
  injection this with this
  injection this with _ h2 _
  exact h h2
/-- What lay ahead of a row's blocks abides an append to it. -/
theorem Blk.appended_lt (B : Blk W g cs t) (hlt : g < base) (hrow : W.ownsRow base e 1 v k xs)
    (K : Aside0 (W.heap.size ≤ w1.heap.size ∧ ∀ j, j < W.heap.size → some j ≠ v.ownBlock → w1.heap[j]? = W.heap[j]?)) : Blk w1 g cs t :=
  ⟨(K.out.2 g B.lt (fun e' => by have := (hrow.lt g e'.symm).1; omega)).trans B.out⟩
theorem Blks.appended_lt {L : List (Nat × Array Value × Nat)} (h : Blks L W) (hlt : ∀ b ∈ L, b.1 < base) (hrow : W.ownsRow base e 1 v k xs)
    (K : Aside0 (W.heap.size ≤ w1.heap.size ∧ ∀ j, j < W.heap.size → some j ≠ v.ownBlock → w1.heap[j]? = W.heap[j]?)) : Blks L w1 := ⟨fun b m => (h.out b m).appended_lt (hlt b m) hrow K⟩
theorem keepsOthers_other (B : Blk W g cs t) (K : Aside0 (W.heap.size ≤ w1.heap.size ∧ ∀ k, k ≠ g → w1.heap[k]? = W.heap[k]?)) : KeepsOthers W w1 :=
  ⟨K.out.1, fun k o hk ho => by
    by_cases e : k = g
    · subst e
      rw [B.out] at hk
      cases hk
      cases ho
    · exact (K.out.2 k e).trans hk⟩
end
/-- Two results that lie in memory, structs or arrays. -/
theorem results_cells2 {P : Program} {fn : Func} {p q : Tmp} {ty : TypeId} (h : fn.results = #[.cell p ty, .cell q ty]) (tmps : Array Value) (w : World) (g g' : Nat) (t : TypeId) (cs cs' : Array Value) (d : TypeDesc)
    (hp : tmps.getD p undef = .pointer (some ⟨g, 0, none⟩)) (hq : tmps.getD q undef = .pointer (some ⟨g', 0, none⟩)) (hg : Blk w g cs t) (hg' : Blk w g' cs' t)
    (hu : P.underlying ty = some d) (hd : (match d with | .struct _ | .array _ _ => true | _ => false) = true) (hi : (P.info? ty).map (·.size) = some cs.size) (hi' : (P.info? ty).map (·.size) = some cs'.size) :
    (results fn tmps).run P w = .ok (.tuple #[.agg cs, .agg cs']) w := by
  have hp' : tmps[p]?.getD undef = .pointer (some ⟨g, 0, none⟩) := by simpa using hp
  have hq' : tmps[q]?.getD undef = .pointer (some ⟨g', 0, none⟩) := by simpa using hq
  have h1 := run_loadVar_row (P := P) w g t ty cs (0, 0) d hg.out hu hd hi
  have h2 := run_loadVar_row (P := P) w g' t ty cs' (0, 0) d hg'.out hu hd hi'
  simp [results, h, hp', hq', asAddr, h1, h2, Result.andThen]
theorem keepsOthers_rowN {W W' : World} {base e size k : Nat} {v : Value} {xs : List Value} (hrow : W.ownsRow base e size v k xs) (hg : W.grownBy W' v.ownBlock) : KeepsOthers W W' := keepsOthers_row hrow hg
section
variable {F : Fence} {n : Nat} {P : Program} {ops : Array Oper} {rest : List Oper} {o : Oper} {a : Act} {Q : Exit → Act → World → Prop} {W : World}
/-- A literal of one element, of several cells. -/
theorem ev_litNIn {w : World} (HB : BelowH w W) (hp : Oper.plainOp o = true) (hgd : o.guard = none) (cs : Array Value) (e : TypeId)
    (hrun : (execOp a.eval o).run P W = .ok (.value (.slice (some ⟨W.heap.size, 0, none⟩) 1 1)) (W.alloc (.cells cs e (0, 0))))
    (h : ∀ g w1, Aside0 (W.heap.size ≤ g) → Blk w1 g cs e → BelowH w w1 → Aside0 (Below W.heap.size W w1) → Aside0 (KeepsOthers W w1) → wpListIn F n P ops Q rest (a.put o.dst (.slice (some ⟨g, 0, none⟩) 1 1)) w1) : wpListIn F n P ops Q (o :: rest) a W :=
  event_runIn hp hgd hrun (h _ _ ⟨Nat.le_refl _⟩ ⟨blk_new W _⟩ (HB.step (below_alloc (Below.refl _ _) _)) ⟨below_alloc (Below.refl _ _) _⟩ ⟨KeepsOthers.alloc W _⟩)
/-- 'make([]T, 0, c)': an empty row of the call's own. -/
theorem ev_makeIn {w : World} (HB : BelowH w W) (hgd : o.guard = none) (t e : TypeId) (x y : Operand) (z : Value) (size bytes c : Nat) (hop : o.op = .makeSlice t x y) (hx : a.eval x = .int .i64 0) (hy : a.eval y = .int .i64 (c : Int))
    (h1 : P.underlying t = some (.slice e)) (hinfo : (P.info? e).map (fun i => (i.zero, i.size, i.bytes)) = some (some z, size, bytes)) (hb : bytes * c ≤ 281474976710656) (hc : c ≤ maxLen)
    (h : ∀ g w1, Aside0 (W.heap.size ≤ g) → w1.ownsRow w.heap.size e size (.slice (some ⟨g, 0, none⟩) 0 c) 0 [] → BelowH w w1 → Aside0 (Below W.heap.size W w1) → Aside0 (KeepsOthers W w1) → wpListIn F n P ops Q rest (a.put o.dst (.slice (some ⟨g, 0, none⟩) 0 c)) w1) : wpListIn F n P ops Q (o :: rest) a W := by
  obtain ⟨i, h2, h3, h4, h5⟩ := info_parts hinfo
  obtain ⟨w1, hr, ho, hg⟩ := run_make_own (P := P) W w.heap.size t e i z size h1 h2 h3 h4 .i64 .i64 c (by rw [h5]; exact hb) hc HB.le
  have hbl : Below W.heap.size W w1 := (Below.refl _ _).grown hg (Nat.le_refl _) (fun j ej => by cases ej)
  refine event_runIn (by simp [Oper.plainOp, hop]) hgd (v := .slice (some ⟨W.heap.size, 0, none⟩) 0 c) (w1 := w1) ?_ (h _ _ ⟨Nat.le_refl _⟩ ho (HB.step hbl) ⟨hbl⟩ ⟨keepsOthers_below hbl⟩)
  unfold execOp
  simp [hop, hx, hy, hr, Result.andThen]
/-- 'append(v, u)': v a row of the call's own, its elements of several cells. -/
theorem ev_appendNIn {w : World} (HB : BelowH w W) (hgd : o.guard = none) (s x : Operand) (t e : TypeId) (z : Value) (size bytes : Nat) (hop : o.op = .call { callee := .builtin .append, args := #[s, x], argTypes := #[t, t] })
    (h1 : P.underlying t = some (.slice e)) (hinfo : (P.info? e).map (fun i => (i.zero, i.size, i.bytes)) = some (some z, size, bytes)) (hz : z.cells.size = size) (hsz : 0 < size) (hb0 : 0 < bytes)
    (v : Value) (k : Nat) (xs : List Value) (hs : a.eval s = v) (hrow : W.ownsRow w.heap.size e size v k xs) (g : Nat) (us : List Value) (hx : a.eval x = .slice (some ⟨g, 0, none⟩) 1 1) {t' : TypeId} (B : Blk W g us.toArray t') (hl : us.length = size) (h1c : ∀ u ∈ us, u.oneCell' = true) (b : (k + 1) * bytes ≤ 140737488355328)
    (h : ∀ v1 w1, w1.ownsRow w.heap.size e size v1 (k + 1) (xs ++ us) → BelowH w w1 → Aside0 (W.heap.size ≤ w1.heap.size ∧ ∀ j, j < W.heap.size → some j ≠ v.ownBlock → w1.heap[j]? = W.heap[j]?) → Aside0 (KeepsOthers W w1) → Aside0 (∃ g' cap', v1 = .slice (some ⟨g', 0, none⟩) (k + 1) cap') → wpListIn F n P ops Q rest (a.put o.dst v1) w1) :
    wpListIn F n P ops Q (o :: rest) a W := by
  obtain ⟨i, h2, h3, h4, h5⟩ := info_parts hinfo
  have hk : k + 1 ≤ (k + 1) * bytes := Nat.le_mul_of_pos_right _ hb0
  refine wpListIn_append_own W hgd s x t hop w.heap.size e i z size bytes h1 h2 h3 h4 h5 hz hsz v k xs hs hrow ⟨g, 0, none⟩ 1 1 us hx (by rw [hl, Nat.one_mul]) ?_ h1c (by unfold maxLen; omega) b HB.le ?_
  · intro j u' hj
    have hc := B.cell (i := j) (v := u') (by rw [List.getElem?_toArray]; exact hj)
    have ha : (⟨g, 0, none⟩ : Addr).add j = ⟨g, j, none⟩ := by rw [Addr.add_mid, Nat.zero_add]
    rw [ha]
    exact hc
  · intro v1 w1 hown hg _
    obtain ⟨g', cap', e1⟩ := ownsRow_succ hown
    exact h v1 w1 hown ⟨HB.out.grown hg HB.le (fun j ej => (hrow.lt j ej).1)⟩ ⟨hg.size, fun j hj hne => hg.block j hj hne⟩ ⟨keepsOthers_rowN hrow hg⟩ ⟨g', cap', e1⟩
end
section
variable {W w1 : World} {g base k size : Nat} {cs : Array Value} {t e : TypeId} {v : Value} {xs : List Value}
theorem Blk.appendedN (B : Blk W g cs t) (hte : t ≠ e) (hrow : W.ownsRow base e size v k xs)
    (K : Aside0 (W.heap.size ≤ w1.heap.size ∧ ∀ j, j < W.heap.size → some j ≠ v.ownBlock → w1.heap[j]? = W.heap[j]?)) : Blk w1 g cs t := ⟨(K.out.2 g B.lt (B.not_row hte hrow)).trans B.out⟩
theorem Blks.appendedN {L : List (Nat × Array Value × Nat)} (h : Blks L W) (hte : ∀ b ∈ L, b.2.2 ≠ e) (hrow : W.ownsRow base e size v k xs)
    (K : Aside0 (W.heap.size ≤ w1.heap.size ∧ ∀ j, j < W.heap.size → some j ≠ v.ownBlock → w1.heap[j]? = W.heap[j]?)) : Blks L w1 := ⟨fun b m => (h.out b m).appendedN (hte b m) hrow K⟩
/-- An owned row abides an append to a row of another type. -/
theorem row_appended {base' k' size' : Nat} {e' : TypeId} {v' : Value} {ys : List Value} (h : W.ownsRow base' e' size' v' k' ys) (hte : e' ≠ e) (hrow : W.ownsRow base e size v k xs)
    (K : Aside0 (W.heap.size ≤ w1.heap.size ∧ ∀ j, j < W.heap.size → some j ≠ v.ownBlock → w1.heap[j]? = W.heap[j]?)) : w1.ownsRow base' e' size' v' k' ys :=
  own_move h fun j ej => K.out.2 j (h.lt j ej).2 fun e2 => by
    obtain ⟨c1, h1⟩ := own_typed h j ej
    obtain ⟨c2, h2⟩ := own_typed hrow j e2.symm
    rw [h1] at h2
    injection h2 with h2
    injection h2 with _ h3 _
    exact hte h3
end
/-- The cells of a row's block, as far as the row goes. -/
structure RowA (cur : Array Value) (xs : List Value) : Prop where mk :: (out : cur.toList.take xs.length = xs)
theorem RowA.get {cur : Array Value} {xs : List Value} (h : RowA cur xs) {i : Nat} {v : Value} (hi : xs[i]? = some v) : cur[i]? = some v := by
  have hl := (List.getElem?_eq_some_iff.1 hi).1
  rw [← h.out, List.getElem?_take, if_pos hl, Array.getElem?_toList] at hi
  exact hi
theorem RowA.set {cur : Array Value} {xs : List Value} (h : RowA cur xs) (i : Nat) (v : Value) : RowA (cur.setIfInBounds i v) (xs.set i v) := by
  refine ⟨?_⟩
  rw [List.length_set, Array.toList_setIfInBounds, List.take_set, h.out]
theorem RowA.size {cur : Array Value} {xs : List Value} (h : RowA cur xs) : xs.length ≤ cur.size := by
  have := congrArg List.length h.out
  have e : cur.toList.length = cur.size := Array.length_toList
  rw [List.length_take] at this
  omega
theorem row_mono {W : World} {base base' n size : Nat} {e : TypeId} {v : Value} {xs : List Value} (h : W.ownsRow base e size v n xs) (hb : base' ≤ base) : W.ownsRow base' e size v n xs :=
  ⟨h.1, h.2.imp id fun ⟨g, cap, cur, e1, h1, r⟩ => ⟨g, cap, cur, e1, Nat.le_trans hb h1, r⟩⟩
/-- An owned row, opened: its block. -/
theorem row_open {W : World} {base n : Nat} {e : TypeId} {v : Value} {xs : List Value} (h : W.ownsRow base e 1 v n xs) :
    xs.length = n ∧ ((v = .slice none 0 0 ∧ n = 0) ∨ ∃ g cap cur, v = .slice (some ⟨g, 0, none⟩) n cap ∧ base ≤ g ∧ Blk W g cur e ∧ n ≤ cap ∧ cap ≤ maxLen ∧ cur.size = cap ∧ RowA cur xs) := by
  have hl : xs.length = n := by rw [h.1, Nat.mul_one]
  refine ⟨hl, ?_⟩
  rcases h.2 with h0 | ⟨g, cap, cur, rfl, hb, hgb, h1, h2, h3, h4⟩
  · exact .inl h0
  · rw [Nat.mul_one] at h3 h4
    exact .inr ⟨g, cap, cur, rfl, hb, ⟨hgb⟩, h1, h2, h3, ⟨by rw [hl]; exact h4⟩⟩
theorem row_shut {W : World} {base n g cap : Nat} {e : TypeId} {cur : Array Value} {xs : List Value} (hb : base ≤ g) (B : Blk W g cur e) (h1 : n ≤ cap) (h2 : cap ≤ maxLen) (h3 : cur.size = cap) (hl : xs.length = n) (h4 : RowA cur xs) : W.ownsRow base e 1 (.slice (some ⟨g, 0, none⟩) n cap) n xs :=
  ⟨by rw [hl, Nat.mul_one], .inr ⟨g, cap, cur, rfl, hb, B.out, h1, h2, by rw [h3, Nat.mul_one], by rw [Nat.mul_one, ← hl]; exact h4.out⟩⟩
end Go.Proofs.YtgddljealeklkaaDoorM
end
-- Qm
section
namespace Go.Proofs.YtgddljealeklkaaDoorQ
open Go Go.RowKit Go.Proofs.YtgddljealeklkaaDoorW.PrintWords

def kindsX : List Nat := [123, 125, 91, 93, 58, 44, 32, 9, 10, 13]
/-- Is it a structural byte? -/
def sgx (x : Nat) : Bool := x == 123 || x == 125 || x == 91 || x == 93 || x == 58 || x == 44
/-- Is it a blank? -/
def blx (x : Nat) : Bool := x == 32 || x == 9 || x == 10 || x == 13
def kindN (x : Nat) : Int := if sgx x then 1 else if blx x then 2 else 0
theorem kinds_next {x i : Nat} (h : ∀ j, j < i → kindsX.getD j 0 ≠ x) (h1 : kindsX.getD i 0 ≠ x) : ∀ j, j < i + 1 → kindsX.getD j 0 ≠ x := fun j hj => by
  by_cases e : j = i
  · subst e; exact h1
  · exact h j (by omega)
theorem kindN_none {x : Nat} (h : ∀ j, j < 10 → kindsX.getD j 0 ≠ x) : kindN x = 0 := by
  have h0 := h 0 (by decide)
  have h1 := h 1 (by decide)
  have h2 := h 2 (by decide)
  have h3 := h 3 (by decide)
  have h4 := h 4 (by decide)
  have h5 := h 5 (by decide)
  have h6 := h 6 (by decide)
  have h7 := h 7 (by decide)
  have h8 := h 8 (by decide)
  have h9 := h 9 (by decide)
  simp only [kindsX, List.getD_cons_zero, List.getD_cons_succ] at h0 h1 h2 h3 h4 h5 h6 h7 h8 h9
  have s : sgx x = false := by
    unfold sgx
    simp only [Bool.or_eq_false_iff, beq_eq_false_iff_ne, ne_eq]
    omega
  have b : blx x = false := by
    unfold blx
    simp only [Bool.or_eq_false_iff, beq_eq_false_iff_ne, ne_eq]
    omega
  unfold kindN
  rw [s, b]
  rfl
theorem blx_of_sgx {x : Nat} (h : sgx x = true) : blx x = false := by
  unfold sgx at h
  unfold blx
  simp only [Bool.or_eq_true, beq_iff_eq] at h
  simp only [Bool.or_eq_false_iff, beq_eq_false_iff_ne, ne_eq]
  omega
theorem kindN_sign {x : Nat} (h : sgx x = true) : kindN x = 1 := by unfold kindN; rw [h]; rfl
theorem kindN_not_sign {x : Nat} (h : sgx x = false) : (kindN x == 1) = false := by
  unfold kindN
  rw [h]
  cases blx x <;> rfl
theorem kindN_blank {x : Nat} (h : sgx x = false) (h2 : blx x = true) : kindN x = 2 := by unfold kindN; rw [h, h2]; rfl
theorem kindN_not_blank {x : Nat} (h : sgx x = false) (h2 : blx x = false) : (kindN x == 2) = false := by unfold kindN; rw [h, h2]; rfl
end Go.Proofs.YtgddljealeklkaaDoorQ
end
-- Qk
section
namespace Go.Proofs.YtgddljealeklkaaDoorQ
open Go Go.RowKit Go.Proofs.YtgddljealeklkaaDoorW.PrintWords

def insS (s : ByteArray) : Nat → Bool := insq (mkq s)
def outq (s : ByteArray) (i : Nat) : Bool := !(mkq s i || insS s i)
def sgq (s : ByteArray) (i : Nat) : Bool := sgx (bt s (i : Int)).toNat && outq s i
def blq (s : ByteArray) (i : Nat) : Bool := blx (bt s (i : Int)).toNat && outq s i
def opq (s : ByteArray) (i : Nat) : Bool := mkq s i && insS s i
def wdq (s : ByteArray) (i : Nat) : Bool := (outq s i && !sgq s i) && !blq s i
/-- The four words of a block. -/
def rowN (s : ByteArray) (k : Nat) : List Value := [.int .u64 (iv (wordAt s.size (sgq s) k)), .int .u64 (iv (wordAt s.size (blq s) k)), .int .u64 (iv (wordAt s.size (opq s) k)), .int .u64 (iv (wordAt s.size (wdq s) k))]
def flatR (s : ByteArray) {n : Nat} (pre : List (Fin n)) : List Value := pre.flatMap fun x => rowN s x.val
theorem flatR_snoc (s : ByteArray) {n : Nat} (pre : List (Fin n)) (x : Fin n) : flatR s (pre ++ [x]) = flatR s pre ++ rowN s x.val := by simp [flatR]
theorem flatR_all (s : ByteArray) : flatR s (List.finRange (nwords s.size)) = (List.range (nwords s.size)).flatMap (rowN s) := by
  rw [show List.range (nwords s.size) = (List.finRange (nwords s.size)).map (·.val) by apply List.ext_getElem <;> simp, List.flatMap_map]
  rfl
/-- What is outside, in a full block. -/
theorem out_full (s : ByteArray) (k : Nat) (h : 64 * k + 64 ≤ s.size) : bits .xor .u64 18446744073709551615 (bits .or .u64 (iv (wordAt s.size (mkq s) k)) (iv (wordAt s.size (insS s) k))) = iv (wordAt s.size (outq s) k) := by
  unfold wordAt
  rw [mask_or, mask_not]
  apply congrArg iv
  apply word_ext
  intro i hi
  rw [decide_eq_true (show 64 * k + i < s.size by omega)]
  rfl
/-- The same in the last one. -/
theorem out_part (s : ByteArray) (k : Nat) (h : 64 * k < s.size) (h2 : s.size < 64 * k + 64) :
    bits .and .u64 (bits .xor .u64 18446744073709551615 (bits .or .u64 (iv (wordAt s.size (mkq s) k)) (iv (wordAt s.size (insS s) k)))) (IntKind.u64.wrap (IntKind.u64.wrap (2 ^ (s.size - 64 * k)) - 1)) = iv (wordAt s.size (outq s) k) := by
  unfold wordAt
  rw [mask_or, mask_not, mask_word _ _ (by omega)]
  apply congrArg iv
  apply word_ext
  intro i hi
  by_cases g : 64 * k + i < s.size
  · rw [decide_eq_true g, decide_eq_true (show i < s.size - 64 * k by omega)]
    rfl
  · rw [decide_eq_false g, decide_eq_false (show ¬ i < s.size - 64 * k by omega)]
    rfl
/-- A class's bytes among those outside. -/
theorem class_out (s : ByteArray) (k : Nat) (p : Nat → Bool) : bits .and .u64 (iv (word fun j => p (cutF s (64 * (k : Int)) 32 j).toNat)) (iv (wordAt s.size (outq s) k)) = iv (wordAt s.size (fun i => p (bt s (i : Int)).toNat && outq s i) k) := by
  unfold wordAt
  rw [bits_and]
  apply congrArg iv
  apply eq_word
  intro i hi
  rw [BitVec.getLsbD_and, word_bit, word_bit, decide_eq_true hi, cutF_byteX]
  unfold byteX
  by_cases g : 64 * k + i < s.size
  · rw [if_pos g, decide_eq_true g]
    simp
  · rw [if_neg g, decide_eq_false g]
    simp
theorem opens_out (s : ByteArray) (k : Nat) : bits .and .u64 (iv (wordAt s.size (mkq s) k)) (iv (wordAt s.size (insS s) k)) = iv (wordAt s.size (opq s) k) := by
  unfold wordAt
  rw [bits_and]
  apply congrArg iv
  apply eq_word
  intro i hi
  rw [BitVec.getLsbD_and, word_bit, word_bit, decide_eq_true hi]
  unfold opq
  cases decide (64 * k + i < s.size) <;> simp
theorem word_minus (n : Nat) (p q : Nat → Bool) (k : Nat) : bits .andNot .u64 (iv (wordAt n p k)) (iv (wordAt n q k)) = iv (wordAt n (fun i => p i && !q i) k) := by
  unfold wordAt
  rw [mask_andNot]
  apply congrArg iv
  apply word_ext
  intro i hi
  cases decide (64 * k + i < n) <;> simp
end Go.Proofs.YtgddljealeklkaaDoorQ
end
-- Tz
section
namespace Go.Proofs.YtgddljealeklkaaDoorQ
open Go Go.RowKit Go.Proofs.YtgddljealeklkaaDoorW.PrintWords
theorem clear_low (k m : Nat) : (2 ^ k * (2 * m + 1)) &&& (2 ^ k * (2 * m + 1) - 1) = 2 ^ k * (2 * m) := by
  have hp : 0 < 2 ^ k := Nat.pow_pos (by decide)
  have e1 : 2 ^ k * (2 * m + 1) - 1 = 2 ^ k * (2 * m) + (2 ^ k - 1) := by rw [Nat.mul_add, Nat.mul_one]; omega
  rw [e1]
  apply Nat.eq_of_testBit_eq
  intro i
  rw [Nat.testBit_and, Nat.testBit_two_pow_mul, Nat.testBit_two_pow_mul_add _ (by omega), Nat.testBit_two_pow_mul]
  by_cases h : i < k
  · simp [h, show ¬ (k ≤ i) by omega]
  · have h2 : k ≤ i := by omega
    simp only [h, h2, decide_true, Bool.true_and, if_false]
    obtain ⟨j, rfl⟩ : ∃ j, i = k + j := ⟨i - k, by omega⟩
    rw [Nat.add_sub_cancel_left]
    cases j with
    | zero => simp [Nat.testBit_zero]
    | succ j =>
      rw [Nat.testBit_succ, Nat.testBit_succ, show (2 * m + 1) / 2 = m by omega, show 2 * m / 2 = m by omega]
      simp
theorem low_bits (k m i : Nat) : (2 ^ k * (2 * m + 1)).testBit i = (decide (k ≤ i) && (2 * m + 1).testBit (i - k)) := Nat.testBit_two_pow_mul
/-- The bits from a place on. -/
def upW (q : Nat → Bool) (i : Nat) : BitVec 64 := word fun j => decide (i ≤ j) && q j
theorem upW_zero (q : Nat → Bool) : upW q 0 = word q := word_ext fun i _ => by simp
theorem up_next (q : Nat → Bool) (i : Nat) (h : upW q i ≠ 0#64) : ∃ k, k = Lib.ctz 64 (upW q i).toNat ∧ i ≤ k ∧ k < 64 ∧ q k = true ∧ (∀ j, i ≤ j → j < k → q j = false) ∧ upW q i &&& (upW q i - 1#64) = upW q (k + 1) := by
  have hb : ∀ j, (upW q i).getLsbD j = (decide (j < 64) && (decide (i ≤ j) && q j)) := fun j => word_bit _ j
  have hb2 : ∀ k j, (upW q (k + 1)).getLsbD j = (decide (j < 64) && (decide (k + 1 ≤ j) && q j)) := fun k j => word_bit _ j
  generalize upW q i = v at h hb ⊢
  have h0 : v.toNat ≠ 0 := fun e => h (BitVec.eq_of_toNat_eq (by rw [e]; rfl))
  obtain ⟨m, hm, hk⟩ := Lib.ctzFrom_spec 64 v.toNat (by omega) v.isLt
  have hc : Lib.ctz 64 v.toNat = Lib.ctzFrom 64 v.toNat := by unfold Lib.ctz; rw [if_neg h0]
  rw [hc]
  generalize Lib.ctzFrom 64 v.toNat = k at hm hk ⊢
  have hv : ∀ j, v.getLsbD j = (decide (k ≤ j) && (2 * m + 1).testBit (j - k)) := fun j => by
    show v.toNat.testBit j = _
    rw [hm]
    exact low_bits k m j
  have hkk : v.getLsbD k = true := by
    rw [hv]
    simp [Nat.testBit_zero]
  rw [hb] at hkk
  simp only [Bool.and_eq_true, decide_eq_true_eq] at hkk
  have hlow : ∀ j, i ≤ j → j < k → q j = false := fun j h1 h2 => by
    have := hv j
    rw [hb, decide_eq_true (show j < 64 by omega), decide_eq_true h1, decide_eq_false (show ¬ k ≤ j by omega)] at this
    simpa using this
  refine ⟨k, rfl, hkk.2.1, hk, hkk.2.2, hlow, ?_⟩
  have hsub : (v &&& (v - 1#64)).toNat = 2 ^ k * (2 * m) := by
    rw [BitVec.toNat_and]
    have : (v - 1#64).toNat = v.toNat - 1 := by
      rw [BitVec.toNat_sub]
      have := v.isLt
      have e : (1#64).toNat = 1 := rfl
      rw [e]
      omega
    rw [this, hm]
    exact clear_low k m
  refine BitVec.eq_of_getLsbD_eq fun j hj => ?_
  show (v &&& (v - 1#64)).toNat.testBit j = _
  rw [hsub, hb2, Nat.testBit_two_pow_mul, decide_eq_true hj, Bool.true_and]
  have hq := hv j
  rw [hb, decide_eq_true hj, Bool.true_and] at hq
  by_cases h1 : k + 1 ≤ j
  · rw [decide_eq_true (show k ≤ j by omega), decide_eq_true (show i ≤ j by omega), Bool.true_and, Bool.true_and] at hq
    obtain ⟨l, rfl⟩ : ∃ l, j = k + (l + 1) := ⟨j - k - 1, by omega⟩
    rw [decide_eq_true h1, decide_eq_true (show k ≤ k + (l + 1) by omega), Bool.true_and, Bool.true_and, hq, Nat.add_sub_cancel_left, Nat.testBit_succ, Nat.testBit_succ, show (2 * m + 1) / 2 = m by omega, show 2 * m / 2 = m by omega]
  · rw [decide_eq_false h1, Bool.false_and]
    by_cases h2 : k ≤ j
    · have : j = k := by omega
      subst this
      simp [Nat.testBit_zero]
    · simp [h2]
theorem up_none (q : Nat → Bool) (i : Nat) (h : upW q i = 0#64) : ∀ j, i ≤ j → j < 64 → q j = false := fun j h1 h2 => by
  have hb : (upW q i).getLsbD j = (decide (j < 64) && (decide (i ≤ j) && q j)) := word_bit _ j
  rw [h, decide_eq_true h2, decide_eq_true h1] at hb
  simpa using hb.symm
end Go.Proofs.YtgddljealeklkaaDoorQ
end
-- Mi
section
namespace Go.Proofs.YtgddljealeklkaaDoorM
open Go Go.RowKit Go.Lib Go.Proofs.YtgddljealeklkaaDoorW.PrintWords Go.Proofs.YtgddljealeklkaaDoorW.PrintLast Go.Proofs.YtgddljealeklkaaDoorW.PrintMore
/-- Block 0 holds the table. -/
structure TabOk (w : World) : Prop where mk :: (out : Go.Proofs.TabAt 0 Lib.deBruijn64tab w)
theorem TabOk.heap {w W : World} (h : TabOk w) (e : W.heap[0]? = w.heap[0]?) : TabOk W := ⟨fun j hj => by
  have := h.out j hj
  unfold World.cell? at this ⊢
  rw [e]
  exact this⟩
theorem TabOk.pos {w : World} (h : TabOk w) : 0 < w.heap.size := World.block_lt_of_cell? w _ (h.out 0 (by decide))
theorem TabOk.below {w W : World} (h : TabOk w) {B : Nat} (hB : 0 < B) (hb : Below B w W) : TabOk W := h.heap (hb.block 0 hB)
/-- What the calls' own words say: nothing that lay there has turned. -/
theorem TabOk.step {w W : World} (h : TabOk w) (hb : Below w.heap.size w W) : TabOk W := h.below h.pos hb
theorem TabOk.stepH {w W : World} (h : TabOk w) (hb : BelowH w W) : TabOk W := h.step hb.out
theorem TabOk.keep {g : Nat} {w W : World} (h : TabOk w) (k : Keep2 0 g w W) : TabOk W := h.heap k.1
theorem TabOk.other {g : Nat} {w W : World} (h : TabOk w) (hg : 0 < g) (K : Aside0 (w.heap.size ≤ W.heap.size ∧ ∀ k, k ≠ g → W.heap[k]? = w.heap[k]?)) : TabOk W := h.heap (K.out.2 0 (by omega))
theorem TabOk.drewN {w : World} (h : TabOk w) (n : Nat) : TabOk (w.drewN n) := h.heap rfl
theorem TabOk.drew {w : World} (h : TabOk w) : TabOk w.drew := h.heap rfl
/-- It abides the turn of a block that holds no cells. -/
theorem TabOk.kept {w W : World} (h : TabOk w) {row : Option Nat} (hg : w.grownBy W row) (hr : ∀ r, row = some r → ∃ o : Obj, w.heap[r]? = some o ∧ o.isCells = false) : TabOk W :=
  h.heap (hg.block 0 h.pos (fun e => by
    obtain ⟨o, ho, hc⟩ := hr 0 e.symm
    have := h.out 0 (by decide)
    unfold World.cell? at this
    rw [ho] at this
    cases o <;> simp_all [Obj.isCells]))
end Go.Proofs.YtgddljealeklkaaDoorM
end
-- Mj
section
namespace Go.Proofs.YtgddljealeklkaaDoorM
open Go Go.RowKit Go.Lib Go.Proofs.YtgddljealeklkaaDoorW.PrintWords Go.Proofs.YtgddljealeklkaaDoorW.PrintLast Go.Proofs.YtgddljealeklkaaDoorW.PrintMore
/-- Nothing but the blocks of X has turned; new ones may have come. -/
structure Turned (X : List Nat) (W W' : World) : Prop where mk ::
  os : W'.os = W.os
  tape : W'.tape = W.tape
  output : W'.output = W.output
  size : W.heap.size ≤ W'.heap.size
  block : ∀ k, k < W.heap.size → k ∉ X → W'.heap[k]? = W.heap[k]?
theorem Turned.mono {X Y : List Nat} {W W' : World} (h : Turned X W W') (hXY : ∀ k ∈ X, k ∈ Y) : Turned Y W W' := ⟨h.os, h.tape, h.output, h.size, fun k hk hn => h.block k hk fun c => hn (hXY k c)⟩
theorem Turned.of_below {X : List Nat} {W W' : World} (h : Below W.heap.size W W') : Turned X W W' := ⟨h.os, h.tape, h.output, h.size, fun k hk _ => h.block k hk⟩
theorem Turned.below {X : List Nat} {w W W' : World} {B : Nat} (h : Turned X W W') (hX : ∀ k ∈ X, B ≤ k) (hB : B ≤ W.heap.size) (k : Below B w W) : Below B w W' := ⟨h.os.trans k.os, h.tape.trans k.tape, h.output.trans k.output, Nat.le_trans k.size h.size, fun i hi => (h.block i (by omega) (fun c => by have := hX i c; omega)).trans (k.block i hi)⟩
theorem Blk.turned {X : List Nat} {W W' : World} {g : Nat} {cs : Array Value} {t : Nat} (b : Blk W g cs t) (h : Turned X W W') (hg : g ∉ X) : Blk W' g cs t := ⟨(h.block g b.lt hg).trans b.out⟩
theorem Turned.keep {X : List Nat} {W W' : World} {g : Nat} (h : Turned X W W') (hg : g < W.heap.size) (hX : ∀ k ∈ X, g < k) : W'.heap[g]? = W.heap[g]? := h.block g hg (fun c => Nat.lt_irrefl _ (hX g c))
theorem not_mem_above {X : List Nat} {B g : Nat} (hX : ∀ k ∈ X, B ≤ k) (hg : g < B) : g ∉ X := fun c => by have := hX g c; omega
/-- A world cut off at a block: whatever lies there and behind is the call's own. -/
theorem below_cut (W : World) (g : Nat) (h : g ≤ W.heap.size) : ∃ w0, BelowH w0 W ∧ w0.heap.size = g :=
  ⟨{ W with heap := W.heap.extract 0 g }, ⟨⟨rfl, rfl, rfl, by simp; exact Nat.min_le_right _ _, fun k hk => by
    simp at hk
    show W.heap[k]? = (W.heap.extract 0 g)[k]?
    rw [Array.getElem?_extract]
    simp
    omega⟩⟩, by simp; omega⟩
/-- What the iterator owes. X: blocks that the iterator has laid for itself since its call began: the rounds let them lie; so they do with what is no cells. -/
def SeqO {α : Type} (F : Fence) (n : Nat) (P : Program) (g : Nat) (lb : Array Value) (encs : α → Array Value) (Kp : World → World → Prop) (S Sp : List α → Prop) (w : World) : Prop :=
  ∀ (l : Nat) (J : List Nat → List α → World → Prop) (Jx : List α → World → Prop) (W : World), Below w.heap.size w W → (∀ X, OwnFrom W.heap.size (J X)) → OwnFrom W.heap.size Jx →
    (∀ X pre W1 k, J X pre W1 → W1.heap.size ≤ k → J (k :: X) pre W1) → (∀ X pre W1 W2, (∀ k ∈ X, W.heap.size ≤ k) → J X pre W1 → Turned X W1 W2 → J X pre W2) →
    (∀ X pre x W1, (∀ k ∈ X, W.heap.size ≤ k ∧ k < W1.heap.size) → J X pre W1 → Sp (pre ++ [x]) → YieldAt F (n - 1) P l (encs x) W1 fun e W' => KeepsFrom W.heap.size W1 W' ∧ (∀ k ∈ X, W'.heap[k]? = W1.heap[k]?) ∧
      ((e = .returned (.bool true) ∧ J X (pre ++ [x]) W' ∧ Kp W1 W') ∨ (e = .returned (.bool false) ∧ Jx (pre ++ [x]) W'))) →
    J [] [] W →
    CallsIn F n P g (#[.func (.yield l) #[] #[]] ++ lb) W fun e W' => (∃ v, e = .returned v) ∧ ((∃ xs X, S xs ∧ (∀ k ∈ X, W.heap.size ≤ k ∧ k < W'.heap.size) ∧ J X xs W') ∨ (∃ pre, Sp pre ∧ Jx pre W'))
/-- How a round's body may be left. -/
def postO {α : Type} (B : Nat) (X : List Nat) (Kp : World → World → Prop) (I : List Nat → List α → World → Prop) (Ix : Code → List α → World → Prop) (xs : List α) (W : World) : Exit → Act → World → Prop
  | .normal, _, W' => KeepsFrom B W W' ∧ (∀ k ∈ X, W'.heap[k]? = W.heap[k]?) ∧ Kp W W' ∧ I X xs W'
  | .ret, _, W' => KeepsFrom B W W' ∧ (∀ k ∈ X, W'.heap[k]? = W.heap[k]?) ∧ Ix .ret xs W'
  | .exit id, _, W' => KeepsFrom B W W' ∧ (∀ k ∈ X, W'.heap[k]? = W.heap[k]?) ∧ Ix (.exit id) xs W'
  | .goto t, _, W' => KeepsFrom B W W' ∧ (∀ k ∈ X, W'.heap[k]? = W.heap[k]?) ∧ Ix (.goto t) xs W'
  | .panic _, _, _ => False
  | .outgrown, _, _ => False
/-- A round, asked for in a round of a loop of one's own, at the wide fence. -/
theorem roundIn_wide {F : Fence} (HF : Aside0 (F = Fence.wide)) {m m' l0 : Nat} {P : Program} {l : Nat} {f : FuncId} {tmps : Array Value} {assign body : Code} {w : World} {R : Ending → World → Prop} (h : RoundIn F m P l f tmps assign body w R) :
    RoundIn (F.inRound l0) m' P l f tmps assign body w R := by
  have e := HF.out
  subst e
  exact ⟨h.1, fun c cs _ => h.2 c cs (room_wide _)⟩
theorem roundIn_any {F : Fence} (HF : Aside0 (F = Fence.wide)) {m m' : Nat} {P : Program} {l : Nat} {f : FuncId} {tmps : Array Value} {assign body : Code} {w : World} {R : Ending → World → Prop} (h : RoundIn F m P l f tmps assign body w R) :
    RoundIn F m' P l f tmps assign body w R := by
  have e := HF.out
  subst e
  exact ⟨h.1, fun c cs _ => h.2 c cs (room_wide _)⟩
section
variable {F : Fence} {n : Nat} {P : Program} {w : World} {W : World}
/-- The caller's two blocks. -/
structure Recs (m : Nat) (r : Loop) (W : World) : Prop where mk ::
  at_ : W.heap[m + 1]? = some (.loop r)
  de : W.heap[m]? = some (.deferred (some []))
theorem Recs.keep {m : Nat} {r : Loop} {W W' : World} (h : Recs m r W) (k : KeepsFrom m W W') : Recs m r W' := ⟨k.same _ _ (by omega) h.at_ rfl, k.same _ _ (Nat.le_refl _) h.de rfl⟩
theorem Recs.turn {m : Nat} {r : Loop} {W : World} (h : Recs m r W) (r' : Loop) : Recs m r' (W.putObj (m + 1) (.loop r')) :=
  ⟨World.putObj_heap_same (Array.getElem?_eq_some_iff.1 h.at_).1, (World.putObj_heap_other (by omega)).trans h.de⟩
theorem Recs.own {m : Nat} {r : Loop} {β : Type} {B : Nat} (hB : m + 2 ≤ B) : OwnFrom B (fun (_ : β) W => Recs m r W) := fun _ A C row hs hg hr =>
  ⟨(hg.block _ (Array.getElem?_eq_some_iff.1 hs.at_).1 (fun e => by have := (hr _ e.symm).1; omega)).trans hs.at_,
   (hg.block _ (Array.getElem?_eq_some_iff.1 hs.de).1 (fun e => by have := (hr _ e.symm).1; omega)).trans hs.de⟩
theorem keeps_putObj {B l : Nat} {W : World} (o : Obj) (h : l < B) : KeepsFrom B W (W.putObj l o) := ⟨by simp, fun k o' hk hs _ => (World.putObj_heap_other (by omega)).trans hs⟩
theorem KeepsFrom.up {B B' : Nat} {W W' : World} (h : KeepsFrom B W W') (hB : B ≤ B') : KeepsFrom B' W W' := ⟨h.size, fun k o hk => h.same k o (Nat.le_trans hB hk)⟩
set_option maxHeartbeats 400000 in
/-- The caller's law. -/
theorem wpIn_rangeFunc_O {α : Type} {g : Operand} {ps : Array Tmp} {assign body : Code} {Q : Exit → Act → World → Prop} {a : Act} {w : World}
    (hro : F.round = none) (h1 : 1 ≤ n) {gf : Nat} {lb : Array Value} (hg : a.eval g = .func (.func gf) #[] lb) (hFg : F.fn gf) (eg : ∀ args w, (callFunc gf args).run P w = .ok (.enter gf args) w)
    {encs : α → Array Value} {Kp : World → World → Prop} {S Sp : List α → Prop} {w0 : World} (hseq : SeqO F (n - 1) P gf lb encs Kp S Sp w0)
    (hKt : ∀ {A B C : World}, Kp A B → Kp B C → Kp A C) (hKb : ∀ (W : World) (l : Nat) (o o' : Obj), w.heap.size ≤ l → W.heap[l]? = some o → o.isCells = false → o.isWalk = false → Kp W (W.putObj l o')) (hb0 : Below w0.heap.size w0 w) (hps : ∀ x, (encs x).size = ps.size)
    (I : List Nat → List α → World → Prop) (Ix : Code → List α → World → Prop) (hI : ∀ X, OwnFrom w.heap.size (I X)) (hIx : ∀ c, OwnFrom w.heap.size (Ix c)) (hE : ∀ X pre W k, I X pre W → W.heap.size ≤ k → I (k :: X) pre W) (hA : ∀ X pre W W', (∀ k ∈ X, w.heap.size ≤ k) → I X pre W → Turned X W W' → I X pre W') (h0 : I [] [] w) (Ax : α → Act → World → Prop) (hAx : ∀ x a', OwnFrom w.heap.size (fun (_ : Unit) W => Ax x a' W))
    (hassign : ∀ (X : List Nat) (l : Nat) (pre : List α) (x : α) (W : World) (K : Act → World → Prop), (∀ k ∈ X, w.heap.size ≤ k ∧ k < W.heap.size) → I X pre W → Sp (pre ++ [x]) → (∀ a' W', KeepsFrom w.heap.size W W' → (∀ k ∈ X, W'.heap[k]? = W.heap[k]?) → Kp W W' → I X pre W' → Ax x a' W' → K a' W') →
      assign.wpIn (F.inRound l) (n - 1 - 1) P (Exit.then K (fun _ _ _ => False)) { tmps := (ps.zip (encs x)).foldl (fun t (p, v) => t.setIfInBounds p v) a.tmps, defers := [] } W)
    (hbody : ∀ (X : List Nat) (l : Nat) (pre : List α) (x : α) (a' : Act) (W : World), (∀ k ∈ X, w.heap.size ≤ k ∧ k < W.heap.size) → w.heap.size ≤ l → (∃ r, W.heap[l]? = some (.loop r)) → I X pre W → Ax x a' W → Sp (pre ++ [x]) → body.wpIn (F.inRound l) (n - 1 - 1) P (postO w.heap.size X Kp I Ix (pre ++ [x]) W) a' W)
    (hdone : ∀ (D : Nat) (X : List Nat) (xs : List α) (W : World), w.heap.size ≤ D → (∀ k ∈ X, w.heap.size ≤ k ∧ k < W.heap.size) → S xs → I X xs W → W.heap[D]? = some (.deferred (some [])) → Q .normal { a with defers := { target := .collected D, args := #[] } :: a.defers } W)
    (hstop : ∀ (D : Nat) (c : Code) (pre : List α) (W : World), w.heap.size ≤ D → Sp pre → Ix c pre W → W.heap[D]? = some (.deferred (some [])) → c.wpIn F n P Q { a with defers := { target := .collected D, args := #[] } :: a.defers } W) :
    (Code.rangeFunc g ps assign body).wpIn F n P Q a w := by
  refine wpIn_rangeFunc fun fn hfn => ?_
  rw [hro]
  obtain ⟨m, hm⟩ : ∃ m, m = w.heap.size := ⟨_, rfl⟩
  obtain ⟨rc, hrc⟩ : ∃ rc : LoopState → Option Code → Loop, rc = fun st pe => { state := st, pending := pe, fn, tmps := a.tmps, params := ps, assign, body, defers := m } := ⟨_, rfl⟩
  obtain ⟨W1, hW1⟩ : ∃ W1, W1 = (w.alloc (.deferred (some []))).alloc (.loop (rc .ready none)) := ⟨_, rfl⟩
  have hs1 : W1.heap.size = m + 2 := by rw [hW1]; simp [hm]
  have hR1 : Recs m (rc .ready none) W1 := by
    rw [hW1]
    refine ⟨?_, (Below.heap_alloc _ _ _ (by simp [hm])).trans (by rw [hm]; exact World.alloc_heap_new w _)⟩
    have := World.alloc_heap_new (w.alloc (.deferred (some []))) (.loop (rc .ready none))
    rwa [World.size_alloc, ← hm] at this
  have hI1 : I [] [] W1 := by
    rw [hW1]
    exact (hI []).alloc _ ((hI []).alloc _ h0)
  have hb1 : Below w0.heap.size w0 W1 := by
    rw [hW1]
    exact hb0.trans ((((Below.refl _ w).alloc (Nat.le_refl _) _).alloc (by simp) _).mono hb0.size)
  simp only [← hm] at hI hKb hdone hstop hbody hassign hIx hAx hA
  have hup : ∀ {β : Type} {J : β → World → Prop}, OwnFrom m J → OwnFrom W1.heap.size J := fun h s A C row hs hg hr => h s A C row hs hg (fun r e => ⟨by have := (hr r e).1; omega, (hr r e).2⟩)
  have hgo := hseq (m + 1) (fun X pre W => I X pre W ∧ Recs m (rc .ready none) W) (fun pre W => ∃ c, Ix c pre W ∧ Recs m (rc .done (some c)) W) W1 hb1
    (fun X => (hup (hI X)).and (Recs.own (by omega)))
    (fun s A C row hs hg hr => by
      obtain ⟨c, hc, hl⟩ := hs
      exact ⟨c, hup (hIx c) s A C row hc hg hr, Recs.own (β := Unit) (Nat.le_of_eq hs1.symm) () A C row hl hg hr⟩)
    (fun X pre A k hs hk => ⟨hE X pre A k hs.1 hk, hs.2⟩)
    (fun X pre A C hX hs ht => ⟨hA X pre A C (fun k hk => by have := hX k hk; omega) hs.1 ht, (ht.block _ (Array.getElem?_eq_some_iff.1 hs.2.at_).1 (not_mem_above hX (by omega))).trans hs.2.at_, (ht.block _ (Array.getElem?_eq_some_iff.1 hs.2.de).1 (not_mem_above hX (by omega))).trans hs.2.de⟩)
  refine ⟨m + 1, [{ target := .collected m, args := #[] }], W1, { target := .fn (.func gf) lb, args := #[.func (.yield (m + 1)) #[] #[]] }, W1, gf, #[.func (.yield (m + 1)) #[] #[]] ++ lb, W1, ?_, ?_, ?_, ?_, fun _ => h1, ?_⟩
  · rw [hW1, hrc, hm]
    exact run_enterLoop_outer _ _ _ _ _
  · simp only [resolve, hg]
    simp [go_sem]
  · intro f' hf'
    simp [Target.leads] at hf'
    subst hf'
    exact hFg
  · simp [invoke, go_sem, eg]
  have hgo2 := hgo ?round ⟨hI1, hR1⟩
  case round =>
    rintro X pre x W hX ⟨hi, hl⟩ hlen
    have hXm : ∀ k ∈ X, m ≤ k ∧ k < W.heap.size := fun k hk => by have := hX k hk; omega
    have hXp : ∀ (A : World) (o : Obj), ∀ k ∈ X, (A.putObj (m + 1) o).heap[k]? = A.heap[k]? := fun A o k hk => World.putObj_heap_other (by have := hX k hk; omega)
    have hy := run_yield (P := P) (args := encs x) hl.at_ (by rw [hrc]; exact hps x)
    rw [hrc] at hy
    refine ⟨fn, _, assign, body, hy, roundIn_of_wpIn hfn (hassign X _ pre x W _ hXm hi hlen fun a' Wa hka hxa hpa hia hax => ?_)⟩
    clear hy
    have hla := hl.keep hka
    have hlt : m + 1 < Wa.heap.size := (Array.getElem?_eq_some_iff.1 hla.at_).1
    have hl2 := hla.turn { rc .ready none with state := .busy }
    refine ⟨_, run_beginRound hla.at_ (by rw [hrc]), ?_⟩
    have hp2 := hKb Wa (m + 1) _ (.loop { rc .ready none with state := .busy }) (by omega) hla.at_ rfl rfl
    have kb : KeepsFrom W1.heap.size W (Wa.putObj (m + 1) (.loop { rc .ready none with state := .busy })) := (KeepsFrom.up hka (by omega)).trans (keeps_putObj _ (by omega))
    refine wpIn_mono (hbody X (m + 1) pre x a' _ (fun k hk => ⟨(hXm k hk).1, by have h1 := (hXm k hk).2; have h2 := hka.size; simp; omega⟩) (by omega) ⟨_, hl2.at_⟩ ((hI X).putObj _ hia (by omega) hla.at_ rfl) ((hAx x a').putObj (s := ()) _ hax (by omega) hla.at_ rfl) hlen) ?_
    have fin : ∀ (jump : Option Code) (W3 : World), KeepsFrom m (Wa.putObj (m + 1) (.loop { rc .ready none with state := .busy })) W3 → ∃ r', (Instr.endRound (m + 1) jump).run P W3 = .ok (.bool jump.isNone) (W3.putObj (m + 1) (.loop r')) ∧ r' = rc (if jump.isNone then .ready else .done) jump ∧
        Recs m { rc .ready none with state := .busy } W3 ∧ Recs m r' (W3.putObj (m + 1) (.loop r')) ∧ KeepsFrom W1.heap.size W (W3.putObj (m + 1) (.loop r')) := fun jump W3 hk3 => by
      have hl3 := hl2.keep hk3
      have hr := run_endRound (P := P) jump hl3.at_
      refine ⟨_, hr, by rw [hrc], hl3, hl3.turn _, (kb.trans (KeepsFrom.up hk3 (by omega))).trans (keeps_putObj _ (by omega))⟩
    have hxx : ∀ (W3 : World) (r' : Loop), (∀ k ∈ X, W3.heap[k]? = (Wa.putObj (m + 1) (.loop { rc .ready none with state := .busy })).heap[k]?) → ∀ k ∈ X, (W3.putObj (m + 1) (.loop r')).heap[k]? = W.heap[k]? := fun W3 r' h k hk =>
      ((hXp W3 _ k hk).trans (h k hk)).trans ((hXp Wa _ k hk).trans (hxa k hk))
    rintro e a3 W3 hp
    cases e with
    | normal =>
      obtain ⟨hk3, hx3, hkp3, hi3⟩ := hp
      obtain ⟨r', hr, he, hl3, hl4, hk4⟩ := fin none W3 hk3
      refine ⟨_, _, hr, hk4, hxx W3 r' hx3, .inl ⟨rfl, ⟨(hI X).putObj _ hi3 (by omega) hl3.at_ rfl, by
        rw [show rc .ready none = r' from he.symm]
        exact hl4⟩, hKt hpa (hKt (hKt hp2 hkp3) (hKb _ _ _ _ (by omega) hl3.at_ rfl rfl))⟩⟩
    | ret =>
      obtain ⟨hk3, hx3, hi3⟩ := hp
      obtain ⟨r', hr, he, hl3, hl4, hk4⟩ := fin (some .ret) W3 hk3
      exact ⟨_, _, hr, hk4, hxx W3 r' hx3, .inr ⟨rfl, .ret, (hIx _).putObj _ hi3 (by omega) hl3.at_ rfl, by
        rw [show rc .done (some .ret) = r' from he.symm]
        exact hl4⟩⟩
    | exit id =>
      obtain ⟨hk3, hx3, hi3⟩ := hp
      obtain ⟨r', hr, he, hl3, hl4, hk4⟩ := fin (some (.exit id)) W3 hk3
      exact ⟨_, _, hr, hk4, hxx W3 r' hx3, .inr ⟨rfl, .exit id, (hIx _).putObj _ hi3 (by omega) hl3.at_ rfl, by
        rw [show rc .done (some (.exit id)) = r' from he.symm]
        exact hl4⟩⟩
    | goto t =>
      obtain ⟨hk3, hx3, hi3⟩ := hp
      obtain ⟨r', hr, he, hl3, hl4, hk4⟩ := fin (some (.goto t)) W3 hk3
      exact ⟨_, _, hr, hk4, hxx W3 r' hx3, .inr ⟨rfl, .goto t, (hIx _).putObj _ hi3 (by omega) hl3.at_ rfl, by
        rw [show rc .done (some (.goto t)) = r' from he.symm]
        exact hl4⟩⟩
    | panic ch => exact hp.elim
    | outgrown => exact hp.elim
  · refine hgo2.mono ?_
    rintro e W2 ⟨⟨v, rfl⟩, (⟨xs, X, hS, hXr, hi, hl⟩ | ⟨pre, hSp, c, hi, hl⟩)⟩
    · have he := run_endLoop (P := P) hl.at_ (by rw [hrc]; simp)
      rw [hrc] at he
      exact ⟨none, _, he, hdone _ X xs _ (Nat.le_refl _) (fun k hk => ⟨by have := hXr k hk; omega, by have := (hXr k hk).2; simp; omega⟩) hS ((hI X).putObj _ hi (by omega) hl.at_ rfl) ((World.putObj_heap_other (by omega)).trans hl.de)⟩
    · have he := run_endLoop (P := P) hl.at_ (by rw [hrc]; simp)
      rw [hrc] at he
      exact ⟨some c, _, he, hstop _ c pre _ (Nat.le_refl _) hSp ((hIx c).putObj _ hi (by omega) hl.at_ rfl) ((World.putObj_heap_other (by omega)).trans hl.de)⟩
end
end Go.Proofs.YtgddljealeklkaaDoorM
end
-- Qs
section
namespace Go.Proofs.YtgddljealeklkaaDoorQ
open Go Go.RowKit Go.Proofs.YtgddljealeklkaaDoorW.PrintWords
/-- A set bit's place. -/
abbrev SetP (n : Nat) (q : Nat → Bool) : Type := { k : Nat // k < n ∧ q k = true }
/-- The places of the set bits below i. -/
def setP (n : Nat) (q : Nat → Bool) : Nat → List (SetP n q)
  | 0 => []
  | i + 1 => if h : i < n ∧ q i = true then setP n q i ++ [⟨i, h⟩] else setP n q i
section
variable {n : Nat} {q : Nat → Bool}
theorem setP_at {i : Nat} (h : i < n ∧ q i = true) : setP n q (i + 1) = setP n q i ++ [⟨i, h⟩] := by rw [setP, dif_pos h]
theorem setP_skip {i : Nat} (h : ¬ (i < n ∧ q i = true)) : setP n q (i + 1) = setP n q i := by rw [setP, dif_neg h]
theorem setP_gap {i : Nat} : ∀ {k : Nat}, i ≤ k → (∀ j, i ≤ j → j < k → q j = false) → setP n q k = setP n q i
  | 0, hik, _ => by
    have : i = 0 := by omega
    rw [this]
  | k + 1, hik, h => by
    by_cases e : i = k + 1
    · rw [e]
    · rw [setP_skip (fun c => by rw [h k (by omega) (by omega)] at c; exact absurd c.2 (by simp)), setP_gap (by omega) fun j h1 h2 => h j h1 (by omega)]
theorem setP_le {i : Nat} : ∀ {k : Nat}, i ≤ k → setP n q i <+: setP n q k
  | 0, hik => by
    have : i = 0 := by omega
    rw [this]
    exact List.prefix_rfl
  | k + 1, hik => by
    by_cases e : i = k + 1
    · rw [e]
      exact List.prefix_rfl
    · refine (setP_le (i := i) (k := k) (by omega)).trans ?_
      by_cases h : k < n ∧ q k = true
      · rw [setP_at h]
        exact List.prefix_append _ _
      · rw [setP_skip h]
        exact List.prefix_rfl
theorem setP_val : ∀ i : Nat, (setP n q i).map (·.val) = (List.range i).filter (fun k => decide (k < n) && q k)
  | 0 => rfl
  | i + 1 => by
    rw [List.range_succ, List.filter_append, ← setP_val i]
    by_cases h : i < n ∧ q i = true
    · rw [setP_at h]
      simp [h.1, h.2]
    · rw [setP_skip h]
      have : (decide (i < n) && q i) = false := by
        cases hq : q i
        · simp
        · have : ¬ i < n := fun c => h ⟨c, hq⟩
          simp [this]
      simp [this]
theorem setP_length : ∀ i : Nat, (setP n q i).length ≤ i
  | 0 => Nat.le_refl _
  | i + 1 => by
    have := setP_length i
    by_cases h : i < n ∧ q i = true
    · rw [setP_at h, List.length_append]
      simp
      omega
    · rw [setP_skip h]
      omega
end
/-- The lowest set bit from i on, told as a set. -/
theorem up_set (q : Nat → Bool) (i : Nat) (h : upW q i ≠ 0#64) : ∃ k, ∃ hk : k < 64 ∧ q k = true, k = Lib.ctz 64 (upW q i).toNat ∧ i ≤ k ∧ setP 64 q (k + 1) = setP 64 q i ++ [⟨k, hk⟩] ∧ upW q i &&& (upW q i - 1#64) = upW q (k + 1) := by
  obtain ⟨k, h1, h2, h3, h4, h5, h6⟩ := up_next q i h
  exact ⟨k, ⟨h3, h4⟩, h1, h2, by rw [setP_at ⟨h3, h4⟩, setP_gap h2 h5], h6⟩
theorem up_end (q : Nat → Bool) (i : Nat) (hi : i ≤ 64) (h : upW q i = 0#64) : setP 64 q 64 = setP 64 q i := setP_gap hi (up_none q i h)
theorem up_less {v : BitVec 64} (h : v ≠ 0#64) : (v &&& (v - 1#64)).toNat < v.toNat := by
  have h0 : v.toNat ≠ 0 := fun e => h (BitVec.eq_of_toNat_eq (by rw [e]; rfl))
  have e : (v - 1#64).toNat = v.toNat - 1 := by
    rw [BitVec.toNat_sub]
    have := v.isLt
    have e : (1#64).toNat = 1 := rfl
    rw [e]
    omega
  rw [BitVec.toNat_and]
  have := Nat.and_le_right (n := v.toNat) (m := (v - 1#64).toNat)
  omega
end Go.Proofs.YtgddljealeklkaaDoorQ
end
-- Qi
section
namespace Go.Proofs.YtgddljealeklkaaDoorQ
open Go Go.RowKit Go.Proofs.YtgddljealeklkaaDoorW.PrintWords
/-- Does something begin at the place i? -/
def begq (s : ByteArray) (i : Nat) : Bool := (sgq s i || opq s i) || (wdq s i && !(decide (0 < i) && wdq s (i - 1)))
/-- Does the block ahead of block k end in a word? -/
def carq (s : ByteArray) (k : Nat) : Bool := decide (0 < k) && wdq s (64 * k - 1)
/-- The same in block k. -/
def begB (s : ByteArray) (k j : Nat) : Bool := decide (64 * k + j < s.size) && begq s (64 * k + j)
/-- Where words begin in block k. -/
def stW (s : ByteArray) (k : Nat) (j : Nat) : Bool := (decide (64 * k + j < s.size) && wdq s (64 * k + j)) && !(if j = 0 then carq s k else decide (64 * k + (j - 1) < s.size) && wdq s (64 * k + (j - 1)))
theorem st_word (s : ByteArray) (k : Nat) : iv (wordAt s.size (wdq s) k &&& ~~~((wordAt s.size (wdq s) k <<< 1) ||| (if carq s k then 1#64 else 0#64))) = iv (word (stW s k)) := by
  have h1 : ∀ i : Fin 64, (1#64).getLsbD i.val = decide (i.val = 0) := by decide
  apply congrArg iv
  apply eq_word
  intro j hj
  have e1 : (if carq s k then 1#64 else 0#64).getLsbD j = (carq s k && decide (j = 0)) := by
    cases carq s k
    · simp
    · simp only [if_true, Bool.true_and]
      exact h1 ⟨j, hj⟩
  rw [BitVec.getLsbD_and, BitVec.getLsbD_not, BitVec.getLsbD_or, BitVec.getLsbD_shiftLeft, e1]
  unfold wordAt stW
  rw [word_bit, word_bit, decide_eq_true hj]
  by_cases g : j = 0
  · subst g
    simp
  · rw [if_neg g, decide_eq_false (show ¬ j < 1 by omega), decide_eq_true (show j - 1 < 64 by omega), decide_eq_false g]
    simp
theorem beg_or (s : ByteArray) (k : Nat) (hk : 64 * k < s.size) : bits .or .u64 (bits .or .u64 (iv (wordAt s.size (sgq s) k)) (iv (wordAt s.size (opq s) k))) (iv (word (stW s k))) = iv (word (begB s k)) := by
  unfold wordAt
  rw [bits_or, bits_or]
  apply congrArg iv
  apply eq_word
  intro j hj
  rw [BitVec.getLsbD_or, BitVec.getLsbD_or, word_bit, word_bit, word_bit, decide_eq_true hj]
  unfold stW begB begq carq
  by_cases g : j = 0
  · subst g
    by_cases h0 : 0 < k
    · simp [h0, show 0 < 64 * k by omega]
      cases decide (64 * k < s.size) <;> simp
    · obtain rfl : k = 0 := by omega
      simp
      cases decide (0 < s.size) <;> simp
  · rw [if_neg g, show 64 * k + (j - 1) = 64 * k + j - 1 by omega]
    by_cases h : 64 * k + j < s.size
    · simp [h, show 64 * k + j - 1 < s.size by omega, show 0 < 64 * k + j by omega]
    · simp [h]
theorem car_next (s : ByteArray) (k : Nat) : (decide (64 * k + 63 < s.size) && wdq s (64 * k + 63)) = if 64 * (k + 1) ≤ s.size then carq s (k + 1) else false := by
  unfold carq
  by_cases h : 64 * (k + 1) ≤ s.size
  · rw [if_pos h, decide_eq_true (show 64 * k + 63 < s.size by omega), decide_eq_true (show 0 < k + 1 by omega), show 64 * (k + 1) - 1 = 64 * k + 63 by omega]
  · rw [if_neg h, decide_eq_false (show ¬ 64 * k + 63 < s.size by omega), Bool.false_and]
/-- What has come ahead of place m. -/
def idxL (s : ByteArray) (m : Nat) : List Int := ((List.range m).filter fun i => decide (i < s.size) && begq s i).map fun i => ((i : Nat) : Int)
theorem idxL_length (s : ByteArray) (m : Nat) : (idxL s m).length ≤ m := by
  unfold idxL
  rw [List.length_map]
  have := List.length_filter_le (fun i => decide (i < s.size) && begq s i) (List.range m)
  rwa [List.length_range] at this
theorem idxL_step (s : ByteArray) (k : Nat) : idxL s (64 * k) ++ (setP 64 (begB s k) 64).map (fun x => (64 * (k : Int) + ((x.val : Nat) : Int))) = idxL s (64 * (k + 1)) := by
  unfold idxL
  rw [show 64 * (k + 1) = 64 * k + 64 by omega, List.range_add, List.filter_append, List.map_append]
  congr 1
  have h := setP_val (n := 64) (q := begB s k) 64
  rw [List.filter_map, List.map_map]
  have e1 : (setP 64 (begB s k) 64).map (fun x => (64 * (k : Int) + ((x.val : Nat) : Int))) = ((setP 64 (begB s k) 64).map (·.val)).map fun j => (64 * (k : Int) + ((j : Nat) : Int)) := by rw [List.map_map]; rfl
  rw [e1, h]
  have e2 : ((List.range 64).filter fun j => decide (j < 64) && begB s k j) = (List.range 64).filter ((fun i => decide (i < s.size) && begq s i) ∘ fun x => 64 * k + x) := List.filter_congr fun j hj => by
    rw [decide_eq_true (List.mem_range.1 hj), Bool.true_and]
    rfl
  rw [e2]
  exact List.map_congr_left fun j _ => by simp
theorem idxL_all (s : ByteArray) (m : Nat) (h : s.size ≤ m) : idxL s m = ((List.range s.size).filter (begq s)).map fun i => ((i : Nat) : Int) := by
  unfold idxL
  obtain ⟨d, rfl⟩ : ∃ d, m = s.size + d := ⟨m - s.size, by omega⟩
  rw [List.range_add, List.filter_append, List.map_append]
  have e1 : (((List.range d).map fun x => s.size + x).filter fun i => decide (i < s.size) && begq s i) = [] := by
    rw [List.filter_eq_nil_iff]
    intro a ha
    obtain ⟨b, _, rfl⟩ := List.mem_map.1 ha
    rw [decide_eq_false (show ¬ s.size + b < s.size by omega), Bool.false_and]
    exact Bool.false_ne_true
  rw [e1]
  rw [List.map_nil, List.append_nil]
  apply congrArg
  exact List.filter_congr fun j hj => by rw [decide_eq_true (List.mem_range.1 hj), Bool.true_and]
end Go.Proofs.YtgddljealeklkaaDoorQ
end
-- Ml
section
namespace Go.Proofs.YtgddljealeklkaaDoorM
open Go Go.RowKit Go.Lib Go.Proofs.YtgddljealeklkaaDoorW.PrintWords Go.Proofs.YtgddljealeklkaaDoorW.PrintLast Go.Proofs.YtgddljealeklkaaDoorW.PrintMore
/-- The marks, the latest first. -/
def marksD (Ds : List Nat) : List Deferred := Ds.map fun D => { target := .collected D, args := #[] }
structure Marks (m : Nat) (Ds : List Nat) (W : World) : Prop where mk ::
  at_ : ∀ D ∈ Ds, m ≤ D ∧ W.heap[D]? = some (.deferred (some []))
  nd : Ds.Nodup
section
variable {m : Nat} {Ds : List Nat} {W W' : World}
theorem Marks.nil : Marks m [] W := ⟨fun _ h => (List.not_mem_nil h).elim, List.nodup_nil⟩
theorem Marks.lt (h : Marks m Ds W) {D : Nat} (hD : D ∈ Ds) : D < W.heap.size := (Array.getElem?_eq_some_iff.1 (h.at_ D hD).2).1
theorem Marks.same (h : Marks m Ds W) (k : ∀ D ∈ Ds, W'.heap[D]? = W.heap[D]?) : Marks m Ds W' := ⟨fun D hD => ⟨(h.at_ D hD).1, (k D hD).trans (h.at_ D hD).2⟩, h.nd⟩
theorem Marks.below (h : Marks m Ds W) (k : Below W.heap.size W W') : Marks m Ds W' := h.same fun _ hD => k.block _ (h.lt hD)
theorem Marks.keeps (h : Marks m Ds W) {B : Nat} (k : KeepsFrom B W W') (hB : B ≤ m) : Marks m Ds W' := ⟨fun D hD => ⟨(h.at_ D hD).1, k.same D _ (Nat.le_trans hB (h.at_ D hD).1) (h.at_ D hD).2 rfl⟩, h.nd⟩
theorem Marks.others (h : Marks m Ds W) (k : KeepsOthers W W') : Marks m Ds W' := h.keeps (k.from m) (Nat.le_refl _)
theorem Marks.cons (h : Marks m Ds W) {D : Nat} (h1 : m ≤ D) (h2 : W.heap[D]? = some (.deferred (some []))) (h3 : D ∉ Ds) : Marks m (D :: Ds) W :=
  ⟨fun D' hD => by
    rcases List.mem_cons.1 hD with rfl | hD
    · exact ⟨h1, h2⟩
    · exact h.at_ D' hD, List.nodup_cons.2 ⟨h3, h.nd⟩⟩
/-- They abide the turn of what was laid behind them. -/
theorem Marks.grown (h : Marks m Ds W) {row : Option Nat} (hg : W.grownBy W' row) {B : Nat} (hB : ∀ D ∈ Ds, D < B) (hr : ∀ r, row = some r → B ≤ r) : Marks m Ds W' :=
  h.same fun D hD => hg.block D (h.lt hD) fun e => by
    have := hr D e.symm
    have := hB D hD
    omega
end
/-- All that turned were marks' blocks, from m on. -/
structure Swept (m : Nat) (W W' : World) : Prop where mk ::
  os : W'.os = W.os
  tape : W'.tape = W.tape
  output : W'.output = W.output
  size : W'.heap.size = W.heap.size
  low : ∀ k, k < m → W'.heap[k]? = W.heap[k]?
  cells : ∀ (k : Nat) (o : Obj), W.heap[k]? = some o → o.isCells = true → W'.heap[k]? = some o
section
variable {m : Nat} {W W' : World}
theorem Swept.refl (m : Nat) (W : World) : Swept m W W := ⟨rfl, rfl, rfl, rfl, fun _ _ => rfl, fun _ _ h _ => h⟩
theorem Swept.put {W1 : World} (h : Swept m W W1) {D : Nat} (hD : m ≤ D) {o : Obj} (ho : W1.heap[D]? = some o) (hc : o.isCells = false) (o' : Obj) : Swept m W (W1.putObj D o') :=
  ⟨h.os, h.tape, h.output, by rw [← h.size]; simp, fun k hk => (World.putObj_heap_other (by omega)).trans (h.low k hk), fun k o2 h2 hc2 => by
    have h3 := h.cells k o2 h2 hc2
    by_cases e : k = D
    · subst e
      rw [h3] at ho
      injection ho with ho
      subst ho
      rw [hc2] at hc
      cases hc
    · exact (World.putObj_heap_other e).trans h3⟩
theorem Blk.swept {g : Nat} {cs : Array Value} {t : Nat} (B : Blk W g cs t) (h : Swept m W W') : Blk W' g cs t := ⟨h.cells g _ B.out rfl⟩
theorem Swept.own {base e size n : Nat} {v : Value} {xs : List Value} (h : Swept m W W') (hr : W.ownsRow base e size v n xs) : W'.ownsRow base e size v n xs :=
  own_move hr fun j ej => by
    obtain ⟨cs, hc⟩ := own_typed hr j ej
    rw [hc]
    exact h.cells j _ hc rfl
theorem Swept.below {w : World} {B : Nat} (h : Swept m W W') (hB : B ≤ m) (k : Below B w W) : Below B w W' := ⟨h.os.trans k.os, h.tape.trans k.tape, h.output.trans k.output, by rw [h.size]; exact k.size, fun i hi => (h.low i (by omega)).trans (k.block i hi)⟩
end
/-- At the return: the marks are swept, one by one; S: what abides that. -/
theorem leaves_marksS {F : Fence} {n : Nat} {P : Program} {fn : Func} {tmps : Array Value} {R : Ending → World → Prop} {m : Nat} {S : World → Prop}
    (hS : ∀ (W : World) (D : Nat), S W → m ≤ D → W.heap[D]? = some (.deferred (some [])) → S (W.putObj D (.deferred none))) : ∀ (Ds : List Nat) (W : World), S W → Marks m Ds W →
    (∀ W', S W' → ∃ v, (results fn tmps).run P W' = .ok v W' ∧ R (.returned v) W') → LeavesInM F n P fn tmps R (marksD Ds) .returning W
  | [], W, hs, _, h => h W hs
  | D :: Ds, W, hs, hm, h => by
    obtain ⟨h1, h2⟩ := hm.at_ D (List.mem_cons_self ..)
    have hnd := List.nodup_cons.1 hm.nd
    refine ⟨by simp, .inl ⟨D, W.putObj D (.deferred none), rfl, run_takeDeferred h2, leaves_marksS hS Ds _ (hS W D hs h1 h2) ?_ h⟩⟩
    exact ⟨fun D' hD' => ⟨(hm.at_ D' (List.mem_cons_of_mem _ hD')).1, (World.putObj_heap_other (fun e => hnd.1 (by rw [← e]; exact hD'))).trans (hm.at_ D' (List.mem_cons_of_mem _ hD')).2⟩, hnd.2⟩
theorem leaves_marks {F : Fence} {n : Nat} {P : Program} {fn : Func} {tmps : Array Value} {R : Ending → World → Prop} {m : Nat} (Ds : List Nat) (W : World) (hm : Marks m Ds W)
    (h : ∀ W', Swept m W W' → ∃ v, (results fn tmps).run P W' = .ok v W' ∧ R (.returned v) W') : LeavesInM F n P fn tmps R (marksD Ds) .returning W :=
  leaves_marksS (S := Swept m W) (fun _ _ hs h1 h2 => hs.put h1 h2 rfl _) Ds W (Swept.refl m W) hm h
/-- An ordinary loop in whose rounds the deferred calls grow: what a round owes is kept from the walk. -/
theorem wpIn_loopM {F : Fence} {n : Nat} {P : Program} {Q : Exit → Act → World → Prop} {a : Act} {w : World} {c : Code} (I : Nat → Act → World → Prop) (k0 : Nat) (h0 : I k0 a w)
    (round : ∀ k a w, I k a w → ∀ K : Act → World → Prop, (∀ k' a' w', k' < k → I k' a' w' → K a' w') → c.wpIn F n P (Exit.then K Q) a w) : (Code.loop c).wpIn F n P Q a w := by
  classical
  have key : ∀ k a w, I k a w → ∃ j, I j a w ∧ ∀ i, I i a w → j ≤ i := fun k => by
    induction k using Nat.strongRecOn with
    | _ k ih =>
      intro a w h
      by_cases hk : ∃ i, i < k ∧ I i a w
      · obtain ⟨i, hi, hI⟩ := hk
        exact ih i hi a w hI
      · exact ⟨k, h, fun i hi => Nat.le_of_not_lt fun c => hk ⟨i, c, hi⟩⟩
  refine wpIn_loop (fun a w => ∃ k, I k a w) (fun a w => if h : ∃ k, I k a w then Classical.choose (key _ a w h.choose_spec) else 0) ⟨k0, h0⟩ ?_
  rintro a w ⟨k, hk⟩
  have hm : ∃ k, I k a w := ⟨k, hk⟩
  have hc := Classical.choose_spec (key _ a w hm.choose_spec)
  refine round _ a w hc.1 _ fun k' a' w' hlt hI => ⟨⟨k', hI⟩, ?_⟩
  have hm' : ∃ k, I k a' w' := ⟨k', hI⟩
  have hc' := Classical.choose_spec (key _ a' w' hm'.choose_spec)
  rw [dif_pos hm', dif_pos hm]
  exact Nat.lt_of_le_of_lt (hc'.2 k' hI) hlt
end Go.Proofs.YtgddljealeklkaaDoorM
end
-- Mk
section
namespace Go.Proofs.YtgddljealeklkaaDoorM
open Go Go.RowKit Go.Lib Go.Proofs.YtgddljealeklkaaDoorW.PrintWords Go.Proofs.YtgddljealeklkaaDoorW.PrintLast Go.Proofs.YtgddljealeklkaaDoorW.PrintMore
section
variable {F : Fence} {n : Nat} {P : Program} {ops : Array Oper} {rest : List Oper} {o : Oper} {a : Act} {Q : Exit → Act → World → Prop} {W : World}
/-- 'append(v, u)': v a row of the call's own; it lies where it lay, or in a new block. -/
theorem ev_appendAtIn {w : World} (HB : BelowH w W) (hgd : o.guard = none) (s x : Operand) (t e : TypeId) (z : Value) (size bytes : Nat) (hop : o.op = .call { callee := .builtin .append, args := #[s, x], argTypes := #[t, t] })
    (h1 : P.underlying t = some (.slice e)) (hinfo : (P.info? e).map (fun i => (i.zero, i.size, i.bytes)) = some (some z, size, bytes)) (hz : z.cells.size = size) (hsz : 0 < size) (hb0 : 0 < bytes)
    (v : Value) (k : Nat) (xs : List Value) (hs : a.eval s = v) (hrow : W.ownsRow w.heap.size e size v k xs) (g : Nat) (us : List Value) (hx : a.eval x = .slice (some ⟨g, 0, none⟩) 1 1) {t' : TypeId} (B : Blk W g us.toArray t') (hl : us.length = size) (h1c : ∀ u ∈ us, u.oneCell' = true) (b : (k + 1) * bytes ≤ 140737488355328)
    (h : ∀ v1 w1, w1.ownsRow w.heap.size e size v1 (k + 1) (xs ++ us) → BelowH w w1 → Aside0 (W.heap.size ≤ w1.heap.size ∧ ∀ j, j < W.heap.size → some j ≠ v.ownBlock → w1.heap[j]? = W.heap[j]?) → Aside0 (KeepsOthers W w1) →
      Aside0 (v1.ownBlock = v.ownBlock ∨ v1.ownBlock = some W.heap.size) → Aside0 (∃ g' cap', v1 = .slice (some ⟨g', 0, none⟩) (k + 1) cap') → wpListIn F n P ops Q rest (a.put o.dst v1) w1) :
    wpListIn F n P ops Q (o :: rest) a W := by
  obtain ⟨i, h2, h3, h4, h5⟩ := info_parts hinfo
  have hk : k + 1 ≤ (k + 1) * bytes := Nat.le_mul_of_pos_right _ hb0
  refine wpListIn_append_own_at W hgd s x t hop w.heap.size e i z size bytes h1 h2 h3 h4 h5 hz hsz v k xs hs hrow ⟨g, 0, none⟩ 1 1 us hx (by rw [hl, Nat.one_mul]) ?_ h1c (by unfold maxLen; omega) b HB.le ?_
  · intro j u' hj
    have hc := B.cell (i := j) (v := u') (by rw [List.getElem?_toArray]; exact hj)
    have ha : (⟨g, 0, none⟩ : Addr).add j = ⟨g, j, none⟩ := by rw [Addr.add_mid, Nat.zero_add]
    rw [ha]
    exact hc
  · intro v1 w1 hown hg _ hat
    obtain ⟨g', cap', e1⟩ := ownsRow_succ hown
    exact h v1 w1 hown ⟨HB.out.grown hg HB.le (fun j ej => (hrow.lt j ej).1)⟩ ⟨hg.size, fun j hj hne => hg.block j hj hne⟩ ⟨keepsOthers_rowN hrow hg⟩ ⟨hat⟩ ⟨g', cap', e1⟩
end
section
variable {W w1 : World} {g base k size : Nat} {cs : Array Value} {t e : TypeId} {v v1 : Value} {xs : List Value}
/-- A block that is not the row's abides an append to it. -/
theorem Blk.appended_ne (B : Blk W g cs t) (hne : v.ownBlock ≠ some g) (K : Aside0 (W.heap.size ≤ w1.heap.size ∧ ∀ j, j < W.heap.size → some j ≠ v.ownBlock → w1.heap[j]? = W.heap[j]?)) : Blk w1 g cs t :=
  ⟨(K.out.2 g B.lt (Ne.symm hne)).trans B.out⟩
theorem own_ne_appended (h : Aside0 (v1.ownBlock = v.ownBlock ∨ v1.ownBlock = some W.heap.size)) (hne : v.ownBlock ≠ some g) (hg : g < W.heap.size) : v1.ownBlock ≠ some g := by
  rcases h.out with e | e
  · rw [e]
    exact hne
  · rw [e]
    intro c
    injection c with c
    omega
theorem own_ne_lt (h : W.ownsRow base e size v k xs) (hg : g < base) : v.ownBlock ≠ some g := fun c => by
  have := (h.lt g c).1
  omega
theorem own_ne_new (h : W.ownsRow base e size v k xs) (hg : W.heap.size ≤ g) : v.ownBlock ≠ some g := fun c => by
  have := (h.lt g c).2
  omega
theorem heap_appended {g : Nat} (hg : g < W.heap.size) (hne : v.ownBlock ≠ some g) (K : Aside0 (W.heap.size ≤ w1.heap.size ∧ ∀ j, j < W.heap.size → some j ≠ v.ownBlock → w1.heap[j]? = W.heap[j]?)) : w1.heap[g]? = W.heap[g]? := K.out.2 g hg (Ne.symm hne)
/-- An owned row of wider elements, opened: its cells. -/
theorem row_openN (h : W.ownsRow base e size v k xs) : (v = .slice none 0 0 ∧ k = 0) ∨ ∃ g cap cur, v = .slice (some ⟨g, 0, none⟩) k cap ∧ base ≤ g ∧ Blk W g cur e ∧ ∀ (i : Nat) (u : Value), xs[i]? = some u → cur[i]? = some u := by
  rcases h.2 with h0 | ⟨g, cap, cur, rfl, hb, hgb, h1, h2, h3, h4⟩
  · exact .inl h0
  · refine .inr ⟨g, cap, cur, rfl, hb, ⟨hgb⟩, fun i u hi => ?_⟩
    rw [← h4, List.getElem?_take] at hi
    split at hi
    · rw [Array.getElem?_toList] at hi
      exact hi
    · cases hi
end
end Go.Proofs.YtgddljealeklkaaDoorM
end
-- Ru
section
namespace Go.Proofs.YtgddljealeklkaaDoorQ
open Go Go.RowKit Go.Proofs.YtgddljealeklkaaDoorW.PrintWords
/-- The place of the lowest set bit of a word, 64 of none. -/
def tzW (x : BitVec 64) : Nat := if x = 0#64 then 64 else Lib.ctz 64 x.toNat
theorem tzW_word (q : Nat → Bool) : (tzW (word q) = 64 ∧ ∀ j, j < 64 → q j = false) ∨ (tzW (word q) < 64 ∧ q (tzW (word q)) = true ∧ ∀ j, j < tzW (word q) → q j = false) := by
  rw [← upW_zero]
  by_cases h : upW q 0 = 0#64
  · left
    exact ⟨if_pos h, fun j hj => up_none q 0 h j (Nat.zero_le _) hj⟩
  · right
    obtain ⟨k, hk, _, h64, hq, hl, _⟩ := up_next q 0 h
    have e : tzW (upW q 0) = k := by rw [hk]; exact if_neg h
    rw [e]
    exact ⟨h64, hq, fun j hj => hl j (Nat.zero_le _) hj⟩
theorem word_ushr (q : Nat → Bool) (i : Nat) : word q >>> i = word fun j => decide (i + j < 64) && q (i + j) := by
  refine BitVec.eq_of_getLsbD_eq fun j hj => ?_
  rw [BitVec.getLsbD_ushiftRight, word_bit, word_bit, decide_eq_true hj, Bool.true_and]
theorem word_not (q : Nat → Bool) : ~~~ (word q) = word fun j => !(q j) := by
  refine BitVec.eq_of_getLsbD_eq fun j hj => ?_
  rw [BitVec.getLsbD_not, word_bit, word_bit, decide_eq_true hj, Bool.true_and, Bool.true_and, Bool.true_and]
/-- The runs of a word's bits from a place on: what words.Runs tells. -/
def runsF (q : Nat → Bool) : Nat → Nat → List (Nat × Nat)
  | 0, _ => []
  | f + 1, i =>
    let a := i + tzW (word q >>> i)
    if 64 ≤ a then [] else (a, tzW (~~~ (word q >>> a))) :: runsF q f (a + tzW (~~~ (word q >>> a)))
theorem runsF_succ (q : Nat → Bool) (f i : Nat) : runsF q (f + 1) i = if 64 ≤ i + tzW (word q >>> i) then [] else (i + tzW (word q >>> i), tzW (~~~ (word q >>> (i + tzW (word q >>> i))))) :: runsF q f (i + tzW (word q >>> i) + tzW (~~~ (word q >>> (i + tzW (word q >>> i))))) := rfl
/-- The next set bit. -/
theorem runs_at (q : Nat → Bool) (i : Nat) (hi : i ≤ 64) : (64 ≤ i + tzW (word q >>> i) ∧ ∀ j, i ≤ j → j < 64 → q j = false) ∨ (i + tzW (word q >>> i) < 64 ∧ q (i + tzW (word q >>> i)) = true ∧ ∀ j, i ≤ j → j < i + tzW (word q >>> i) → q j = false) := by
  rw [word_ushr]
  rcases tzW_word (fun j => decide (i + j < 64) && q (i + j)) with ⟨h1, h2⟩ | ⟨h1, h2, h3⟩
  · left
    refine ⟨by omega, fun j ha hb => ?_⟩
    have := h2 (j - i) (by omega)
    rw [show i + (j - i) = j by omega, decide_eq_true hb, Bool.true_and] at this
    exact this
  · right
    simp only [Bool.and_eq_true, decide_eq_true_eq] at h2
    refine ⟨h2.1, h2.2, fun j ha hb => ?_⟩
    have := h3 (j - i) (by omega)
    rw [show i + (j - i) = j by omega, decide_eq_true (show j < 64 by omega), Bool.true_and] at this
    exact this
/-- How long a run is. -/
theorem runs_len (q : Nat → Bool) (a : Nat) (ha : a < 64) (hq : q a = true) : 0 < tzW (~~~ (word q >>> a)) ∧ a + tzW (~~~ (word q >>> a)) ≤ 64 ∧ (∀ j, a ≤ j → j < a + tzW (~~~ (word q >>> a)) → q j = true) ∧ (a + tzW (~~~ (word q >>> a)) < 64 → q (a + tzW (~~~ (word q >>> a))) = false) := by
  rw [word_ushr, word_not]
  rcases tzW_word (fun j => !(decide (a + j < 64) && q (a + j))) with ⟨h1, h2⟩ | ⟨h1, h2, h3⟩
  · rw [h1]
    have h0 : a = 0 := by
      apply Classical.byContradiction
      intro hn
      have := h2 (64 - a) (by omega)
      simp [show ¬ (a + (64 - a) < 64) by omega] at this
    subst h0
    refine ⟨by omega, by omega, fun j _ hj => ?_, fun h => absurd h (by omega)⟩
    have := h2 j (by omega)
    simp only [Nat.zero_add, Bool.not_eq_false', Bool.and_eq_true, decide_eq_true_eq] at this
    exact this.2
  · revert h1 h2 h3
    generalize tzW (word fun j => !(decide (a + j < 64) && q (a + j))) = n
    intro h1 h2 h3
    have hp : 0 < n := by
      rcases Nat.eq_zero_or_pos n with e | e
      · subst e
        simp [hq, ha] at h2
      · exact e
    have hle : a + n ≤ 64 := by
      apply Classical.byContradiction
      intro hn
      have := h3 (64 - a) (by omega)
      simp [show ¬ (a + (64 - a) < 64) by omega] at this
    refine ⟨hp, hle, fun j hj hb => ?_, fun h => ?_⟩
    · have := h3 (j - a) (by omega)
      rw [show a + (j - a) = j by omega] at this
      simp only [Bool.not_eq_false', Bool.and_eq_true, decide_eq_true_eq] at this
      exact this.2
    · simpa [h] using h2
/-- The runs of places at which W holds, from a place on, so many places; o: where the run begins in which we are. -/
def spW (W : Nat → Bool) : Nat → Option Nat → Nat → List (Nat × Nat)
  | 0, o, p => match o with | none => [] | some f => [(f, p)]
  | m + 1, o, p => if W p then spW W m (some (o.getD p)) (p + 1) else (match o with | none => [] | some f => [(f, p)]) ++ spW W m none (p + 1)
theorem spW_in (W : Nat → Bool) (f : Nat) : ∀ (n m p : Nat), (∀ j, p ≤ j → j < p + n → W j = true) → spW W (n + m) (some f) p = spW W m (some f) (p + n)
  | 0, m, p, _ => by rw [Nat.zero_add, Nat.add_zero]
  | n + 1, m, p, h => by
    rw [show n + 1 + m = (n + m) + 1 by omega, spW, if_pos (h p (Nat.le_refl _) (by omega)), Option.getD_some, spW_in W f n m (p + 1) (fun j h1 h2 => h j (by omega) (by omega)), show p + 1 + n = p + (n + 1) by omega]
theorem spW_out (W : Nat → Bool) : ∀ (n m p : Nat), (∀ j, p ≤ j → j < p + n → W j = false) → spW W (n + m) none p = spW W m none (p + n)
  | 0, m, p, _ => by rw [Nat.zero_add, Nat.add_zero]
  | n + 1, m, p, h => by
    rw [show n + 1 + m = (n + m) + 1 by omega, spW, if_neg (by rw [h p (Nat.le_refl _) (by omega)]; decide), List.nil_append, spW_out W n m (p + 1) (fun j h1 h2 => h j (by omega) (by omega)), show p + 1 + n = p + (n + 1) by omega]
theorem spW_open (W : Nat → Bool) (n m p : Nat) (hn : 0 < n) (h : ∀ j, p ≤ j → j < p + n → W j = true) : spW W (n + m) none p = spW W m (some p) (p + n) := by
  obtain ⟨k, rfl⟩ : ∃ k, n = k + 1 := ⟨n - 1, by omega⟩
  rw [show k + 1 + m = (k + m) + 1 by omega, spW, if_pos (h p (Nat.le_refl _) (by omega)), Option.getD_none, spW_in W p k m (p + 1) (fun j h1 h2 => h j (by omega) (by omega)), show p + 1 + k = p + (k + 1) by omega]
theorem spW_shut (W : Nat → Bool) (m f p : Nat) (h : W p = false) : spW W (m + 1) (some f) p = (f, p) :: spW W (m + 1) none p := by
  rw [spW, if_neg (by rw [h]; decide), spW, if_neg (by rw [h]; decide)]
  rfl
/-- What marks.Words tells of a row's runs, and where the run begins in which it ends. -/
def rowT (b : Nat) : List (Nat × Nat) → Option Nat → List (Nat × Nat) × Option Nat
  | [], o => ([], o)
  | (i, n) :: l, o => if i + n = 64 then ([], some (o.getD (b + i))) else ((o.getD (b + i), b + i + n) :: (rowT b l none).1, (rowT b l none).2)
theorem rowT_go (W q : Nat → Bool) (b m : Nat) (hq : ∀ j, j < 64 → q j = W (b + j)) : ∀ (fu i : Nat) (o : Option Nat), i ≤ 64 → 65 - i ≤ fu → (o ≠ none → i < 64 ∧ q i = true) →
    spW W (64 - i + m) o (b + i) = (rowT b (runsF q fu i) o).1 ++ spW W m (rowT b (runsF q fu i) o).2 (b + 64)
  | 0, i, o, hi, hf, _ => absurd hf (by omega)
  | fu + 1, i, o, hi, hf, ho => by
    unfold runsF
    rcases runs_at q i hi with ⟨h1, h2⟩ | ⟨h1, h2, h3⟩
    · have e : o = none := by
        cases o with
        | none => rfl
        | some f =>
          have := ho (by simp)
          have h := h2 i (Nat.le_refl _) this.1
          rw [this.2] at h
          cases h
      subst e
      simp only [if_pos h1, rowT, List.nil_append]
      rw [spW_out W (64 - i) m (b + i) (fun j ha hb => by
        have := hq (j - b) (by omega)
        rw [show b + (j - b) = j by omega] at this
        rw [← this]
        exact h2 _ (by omega) (by omega)), show b + i + (64 - i) = b + 64 by omega]
    · simp only [if_neg (show ¬ 64 ≤ i + tzW (word q >>> i) by omega)]
      have hl := runs_len q (i + tzW (word q >>> i)) h1 h2
      have hia : i ≤ i + tzW (word q >>> i) := Nat.le_add_right _ _
      revert hl h1 h2 h3 hia
      generalize i + tzW (word q >>> i) = a
      intro h1 h2 h3 hl hia
      revert hl
      generalize tzW (~~~ (word q >>> a)) = n
      rintro ⟨hn, hle, hin, hend⟩
      have hW : ∀ j, b + a ≤ j → j < b + a + n → W j = true := fun j ha hb => by
        have := hq (j - b) (by omega)
        rw [show b + (j - b) = j by omega] at this
        rw [← this]
        exact hin _ (by omega) (by omega)
      have hopen : spW W (64 - i + m) o (b + i) = spW W (64 - (a + n) + m) (some (o.getD (b + a))) (b + a + n) := by
        cases o with
        | some f =>
          have hi2 := ho (by simp)
          have e : a = i := by
            apply Classical.byContradiction
            intro hc
            have := h3 i (Nat.le_refl _) (by omega)
            rw [hi2.2] at this
            cases this
          subst e
          rw [show 64 - a + m = n + (64 - (a + n) + m) by omega, spW_in W f n _ (b + a) hW]
          rfl
        | none =>
          rw [show 64 - i + m = (a - i) + (n + (64 - (a + n) + m)) by omega, spW_out W (a - i) _ (b + i) (fun j ha hb => by
            have := hq (j - b) (by omega)
            rw [show b + (j - b) = j by omega] at this
            rw [← this]
            exact h3 _ (by omega) (by omega)), show b + i + (a - i) = b + a by omega, spW_open W n _ (b + a) hn hW]
          rfl
      rw [hopen]
      unfold rowT
      by_cases h64 : a + n = 64
      · rw [if_pos h64, h64, show 64 - 64 + m = m by omega, List.nil_append, show b + a + n = b + 64 by omega]
      · rw [if_neg h64, List.cons_append]
        have hWe : W (b + a + n) = false := by
          have := hq (a + n) (by omega)
          rw [← Nat.add_assoc] at this
          rw [← this]
          exact hend (by omega)
        rw [show 64 - (a + n) + m = (64 - (a + n) - 1 + m) + 1 by omega, spW_shut W _ _ _ hWe, show (64 - (a + n) - 1 + m) + 1 = 64 - (a + n) + m by omega, ← rowT_go W q b m hq fu (a + n) none (by omega) (by omega) (fun h => absurd rfl h), Nat.add_assoc b a n]
/-- What one round of marks.Words tells ahead of the row's runs, and how it goes on. -/
def rowA (b : Nat) (q : Nat → Bool) : Option Nat → List (Nat × Nat) × Option Nat
  | none => ([], none)
  | some f => if q 0 then ([], some f) else ([(f, b)], none)
theorem rowA_go (W q : Nat → Bool) (b m : Nat) (hq : ∀ j, j < 64 → q j = W (b + j)) (o : Option Nat) :
    spW W (64 + m) o b = (rowA b q o).1 ++ spW W (64 + m) (rowA b q o).2 b := by
  cases o with
  | none => rfl
  | some f =>
    unfold rowA
    have h0 := hq 0 (by decide)
    cases h : q 0 with
    | true => simp
    | false =>
      rw [h, Nat.add_zero] at h0
      simp only [Bool.false_eq_true, if_false]
      rw [show 64 + m = 63 + m + 1 by omega, spW_shut W _ _ _ h0.symm]
      rfl
theorem rowA_open (b : Nat) (q : Nat → Bool) (o : Option Nat) (h : (rowA b q o).2 ≠ none) : 0 < 64 ∧ q 0 = true := by
  cases o with
  | none => exact absurd rfl h
  | some f =>
    unfold rowA at h
    cases hq : q 0 with
    | true => exact ⟨by decide, rfl⟩
    | false =>
      rw [hq] at h
      exact absurd rfl h
/-- One round of marks.Words. -/
theorem row_go (W q : Nat → Bool) (b m : Nat) (hq : ∀ j, j < 64 → q j = W (b + j)) (o : Option Nat) :
    spW W (64 + m) o b = (rowA b q o).1 ++ ((rowT b (runsF q 65 0) (rowA b q o).2).1 ++ spW W m (rowT b (runsF q 65 0) (rowA b q o).2).2 (b + 64)) := by
  rw [rowA_go W q b m hq o]
  have h := rowT_go W q b m hq 65 0 (rowA b q o).2 (by decide) (by decide) (rowA_open b q o)
  rw [Nat.sub_zero, Nat.add_zero] at h
  rw [h]
/-- Behind the last place at which W holds nothing more is told, but what is open. -/
theorem spW_tail (W : Nat → Bool) (n p : Nat) (h : ∀ j, p ≤ j → W j = false) : spW W n none p = [] := by
  have := spW_out W n 0 p (fun j h1 _ => h j h1)
  rw [Nat.add_zero] at this
  rw [this]
  rfl
theorem spW_end (W : Nat → Bool) (n : Nat) (o : Option Nat) (p : Nat) (h : ∀ j, p ≤ j → W j = false) : spW W n o p = spW W 0 o p := by
  cases n with
  | zero => rfl
  | succ n =>
    cases o with
    | none => rw [spW_tail W _ p h]; rfl
    | some f => rw [spW_shut W n f p (h p (Nat.le_refl _)), spW_tail W _ p h]; rfl
/-- So many places, and more behind them at which W does not hold. -/
theorem spW_more (W : Nat → Bool) : ∀ (m e : Nat) (o : Option Nat) (p : Nat), (∀ j, p + m ≤ j → W j = false) → spW W (m + e) o p = spW W m o p
  | 0, e, o, p, h => by rw [Nat.zero_add]; exact spW_end W e o p h
  | m + 1, e, o, p, h => by
    rw [show m + 1 + e = (m + e) + 1 by omega]
    simp only [spW]
    rw [spW_more W m e _ (p + 1) (fun j hj => h j (by omega)), spW_more W m e _ (p + 1) (fun j hj => h j (by omega))]
end Go.Proofs.YtgddljealeklkaaDoorQ
end
-- Qu
section
namespace Go.Proofs.YtgddljealeklkaaDoorQ
open Go Go.RowKit Go.Proofs.YtgddljealeklkaaDoorW.PrintWords
/-- One mark more. -/
def stepQ (st : List (Nat × Nat) × Option Nat) (p : Nat) : List (Nat × Nat) × Option Nat := match st.2 with
  | none => (st.1, some (p + 1))
  | some f => (st.1 ++ [(f, p)], none)
/-- The beginning of the open one, as the variable holds it. -/
def fromI (o : Option Nat) : Int := match o with | none => -1 | some f => (f : Int)
end Go.Proofs.YtgddljealeklkaaDoorQ
end
