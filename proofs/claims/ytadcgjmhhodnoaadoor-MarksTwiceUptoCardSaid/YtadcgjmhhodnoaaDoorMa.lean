/-
  Small words for hand-typed walks: a block of cells hidden from the walk, arrays of 64 bytes by value. No function of the program in sight.
-/
import Derived.Test.YtadcgjmhhodnoaaDoorWWords
import Derived.Test.YtadcgjmhhodnoaaDoorWMore
import Derived.Test.YtadcgjmhhodnoaaDoorQa
import Derived.Laws.CopyOwn
import Derived.Laws.Rows
import Derived.Laws.Tables
import Derived.Deep.MidRow
import Derived.Lib.ConvBytes
import Derived.Lib.BufferWrite
import Derived.StillTailTactics
import Derived.Outline
import Derived.WalkKit
import Derived.WalkSpells
import Derived.WalkLawsBesides
namespace Go.Proofs.YtadcgjmhhodnoaaDoorM
open Go Go.RowKit Go.Lib Go.Proofs.YtadcgjmhhodnoaaDoorW.PrintWords Go.Proofs.YtadcgjmhhodnoaaDoorW.PrintLast Go.Proofs.YtadcgjmhhodnoaaDoorW.PrintMore

/-- A block of cells, hidden from the walk. -/
structure Blk (W : World) (g : Nat) (cs : Array Value) (t : Nat) : Prop where mk :: (out : W.heap[g]? = some (.cells cs t (0, 0)))
/-- Nothing that lay in w has turned in W. -/
structure BelowH (w W : World) : Prop where mk :: (out : Below w.heap.size w W)
theorem BelowH.refl (w : World) : BelowH w w := ⟨Below.refl _ _⟩
theorem BelowH.step {w W W' : World} (h : BelowH w W) (k : Below W.heap.size W W') : BelowH w W' := ⟨below_step h.out k⟩
theorem BelowH.set {w W : World} (h : BelowH w W) {g : Nat} (hg : w.heap.size ≤ g) (i : Nat) (v : Value) : BelowH w (W.setCell ⟨g, i, none⟩ v) := ⟨below_set h.out hg⟩
theorem BelowH.row {w W : World} (h : BelowH w W) {g : Nat} (hg : w.heap.size ≤ g) (cs : Array Value) : BelowH w (W.setRow g cs) := ⟨below_setRow h.out hg cs⟩
theorem BelowH.drew {w W : World} (h : BelowH w W) : BelowH w W.drew := ⟨below_drew h.out⟩
theorem BelowH.drewN {w W : World} (h : BelowH w W) (n : Nat) : BelowH w (W.drewN n) := ⟨pw_below_drewN h.out n⟩
theorem BelowH.le {w W : World} (h : BelowH w W) : w.heap.size ≤ W.heap.size := h.out.size
theorem Blk.cell {W : World} {g : Nat} {cs : Array Value} {t : Nat} (h : Blk W g cs t) {i : Nat} {v : Value} (hv : cs[i]? = some v) : W.cell? ⟨g, i, none⟩ = some v := (blk_cell h.out i).trans hv
theorem Blk.frozen {W : World} {g : Nat} {cs : Array Value} {t : Nat} (h : Blk W g cs t) (i : Nat) : W.frozen? ⟨g, i, none⟩ = false := blk_frozen h.out i
theorem Blk.set {W : World} {g : Nat} {cs : Array Value} {t : Nat} (h : Blk W g cs t) (i : Nat) (v : Value) : Blk (W.setCell ⟨g, i, none⟩ v) g (cs.setIfInBounds i v) t := ⟨blk_set h.out i v⟩
theorem Blk.far {W : World} {g : Nat} {cs : Array Value} {t : Nat} (h : Blk W g cs t) {g' : Nat} (hne : g ≠ g') (i : Nat) (v : Value) : Blk (W.setCell ⟨g', i, none⟩ v) g cs t := ⟨blk_far h.out hne v⟩
theorem Blk.below {W W' : World} {g : Nat} {cs : Array Value} {t : Nat} (h : Blk W g cs t) (hb : Below W.heap.size W W') : Blk W' g cs t := ⟨blk_below h.out hb⟩
theorem Blk.drew {W : World} {g : Nat} {cs : Array Value} {t : Nat} (h : Blk W g cs t) : Blk W.drew g cs t := ⟨h.out⟩
theorem Blk.drewN {W : World} {g : Nat} {cs : Array Value} {t : Nat} (h : Blk W g cs t) (n : Nat) : Blk (W.drewN n) g cs t := ⟨h.out⟩
theorem Blk.lt {W : World} {g : Nat} {cs : Array Value} {t : Nat} (h : Blk W g cs t) : g < W.heap.size := blk_lt h.out
theorem Blk.eqA {W : World} {g : Nat} {cs cs' : Array Value} {t : Nat} (h : Blk W g cs t) (e : cs = cs') : Blk W g cs' t := e ▸ h
theorem Blk.row {W : World} {g : Nat} {cs : Array Value} {t : Nat} (h : Blk W g cs t) (cs' : Array Value) : Blk (W.setRow g cs') g cs' t := ⟨setRow_heap W g cs cs' t (0, 0) h.out⟩
theorem Blk.farRow {W : World} {g : Nat} {cs : Array Value} {t : Nat} (h : Blk W g cs t) {g' : Nat} (hne : g ≠ g') (cs' : Array Value) : Blk (W.setRow g' cs') g cs t := ⟨(setRow_other W g' g cs' hne).trans h.out⟩
/-- A number that is hidden from the walk. -/
theorem hidNat {p : Prop} (h : p) : Aside0 p := ⟨h⟩

/-- An array of 64 bytes. -/
def blkA (f : Nat → Int) : Array Value := Array.ofFn (n := 64) fun i => .int .u8 (f i)
theorem blkA_size (f : Nat → Int) : (blkA f).size = 64 := by simp [blkA]
theorem blkA_get (f : Nat → Int) {i : Nat} (h : i < 64) : (blkA f)[i]? = some (.int .u8 (f i)) := by
  simp [blkA, h]
theorem blkA_ext {cs : Array Value} {f : Nat → Int} (hs : cs.size = 64) (h : ∀ i, i < 64 → cs[i]? = some (.int .u8 (f i))) : cs = blkA f := by
  apply Array.ext_getElem?
  intro i
  by_cases hi : i < 64
  · rw [h i hi, blkA_get f hi]
  · rw [Array.getElem?_eq_none (by omega), Array.getElem?_eq_none (by rw [blkA_size]; omega)]
theorem blkA_congr {f f' : Nat → Int} (h : ∀ i, i < 64 → f i = f' i) : blkA f = blkA f' := blkA_ext (blkA_size f) fun i hi => by rw [blkA_get f hi, h i hi]
theorem blkA_set {f f' : Nat → Int} {i : Nat} {v : Int} (hi : i < 64) (h1 : f' i = v) (h2 : ∀ j, j ≠ i → f j = f' j) : (blkA f).setIfInBounds i (.int .u8 v) = blkA f' := by
  apply blkA_ext
  · rw [Array.size_setIfInBounds, blkA_size]
  · intro j hj
    by_cases e : j = i
    · subst e
      rw [Array.getElem?_setIfInBounds_self_of_lt (by rw [blkA_size]; exact hj), h1]
    · rw [Array.getElem?_setIfInBounds_ne (Ne.symm e), blkA_get f hj, h2 j e]
theorem blkA_zero : (Array.replicate 64 (.int .u8 0) : Array Value) = blkA fun _ => 0 := blkA_ext (by simp) fun i hi => by simp [hi]
theorem blkA_one (f : Nat → Int) : (blkA f).all (·.oneCell') = true := by
  rw [Array.all_eq_true]
  intro i hi
  rw [blkA_size] at hi
  have := blkA_get f hi
  rw [Array.getElem?_eq_getElem (by rw [blkA_size]; exact hi)] at this
  rw [Option.some.inj this]
  rfl
theorem bt_extract (s : ByteArray) (a b j : Nat) (hj : a + j < b) (hb : b ≤ s.size) : bt (s.extract a b) (j : Int) = bt s ((a + j : Nat) : Int) := by
  unfold bt
  have h1 : (j : Int).toNat < (s.extract a b).size := by rw [ByteArray.size_extract]; omega
  have h2 : ((a + j : Nat) : Int).toNat < s.size := by omega
  rw [dif_pos h1, dif_pos h2]
  simp only [Int.toNat_natCast]
  rw [ByteArray.getElem_extract]
/-- An array of n bytes. -/
def arrA (n : Nat) (f : Nat → Int) : Array Value := Array.ofFn (n := n) fun i => .int .u8 (f i)
theorem arrA_size (n : Nat) (f : Nat → Int) : (arrA n f).size = n := by simp [arrA]
theorem arrA_get (n : Nat) (f : Nat → Int) {i : Nat} (h : i < n) : (arrA n f)[i]? = some (.int .u8 (f i)) := by
  simp [arrA, h]
/-- A row of results of which the first one lies in memory, an array. -/
theorem results_row_tmp {P : Program} {fn : Func} {p u : Tmp} {ty : TypeId} (h : fn.results = #[.cell p ty, .tmp u]) (tmps : Array Value) (w : World) (g : Nat) (t : TypeId) (cs : Array Value) (d : TypeDesc)
    (hp : tmps.getD p undef = .pointer (some ⟨g, 0, none⟩)) (hg : Blk w g cs t)
    (hu : P.underlying ty = some d) (hd : (match d with | .struct _ | .array _ _ => true | _ => false) = true) (hi : (P.info? ty).map (·.size) = some cs.size) :
    (results fn tmps).run P w = .ok (.tuple #[.agg cs, tmps.getD u undef]) w := by
  rw [results_cell_tmp h, hp]
  have h1 := run_loadVar_row (P := P) w g t ty cs (0, 0) d hg.out hu hd hi
  simp [asAddr, h1, Result.andThen]
section
variable {P : Program} {ops : Array Oper} {rest : List Oper} {o : Oper} {a : Act} {Q : Exit → Act → World → Prop} {W : World}
/-- A new block, in letters. -/
theorem ev_alloc {w : World} (HB : BelowH w W) (hgd : o.guard = none) (cs : Array Value) (t : TypeId)
    (hrun : (execOp a.eval o).run P W = .ok (.value (.pointer (some ⟨W.heap.size, 0, none⟩))) (W.alloc (.cells cs t (0, 0))))
    (h : ∀ g w1, Aside0 (W.heap.size ≤ g) → Aside0 (w.heap.size ≤ g) → Blk w1 g cs t → BelowH w w1 → Aside0 (Below W.heap.size W w1) → wpList P ops Q rest (a.put o.dst (.pointer (some ⟨g, 0, none⟩))) w1) : wpList P ops Q (o :: rest) a W :=
  Kd.event_run hgd hrun (h _ _ ⟨Nat.le_refl _⟩ ⟨HB.le⟩ ⟨blk_new W _⟩ (HB.step (below_alloc (Below.refl _ _) _)) ⟨below_alloc (Below.refl _ _) _⟩)
/-- A whole array out of its block. -/
theorem ev_load {g : Nat} {cs : Array Value} {t : TypeId} (B : Blk W g cs t) (hgd : o.guard = none) (ty : TypeId) (x : Operand) (ho : o.op = .load ty x) (hx : a.eval x = .pointer (some ⟨g, 0, none⟩))
    {n : Nat} {e : TypeId} (hu : P.underlying ty = some (.array n e)) (hi : (P.info? ty).map (·.size) = some cs.size)
    (h : wpList P ops Q rest (a.put o.dst (.agg cs)) W) : wpList P ops Q (o :: rest) a W :=
  wpList_load_row hgd ty x ho g hx t cs (0, 0) _ B.out hu rfl hi h
/-- A whole array into its block. -/
theorem ev_store {w : World} (HB : BelowH w W) {g : Nat} {old cs : Array Value} {t : TypeId} (B : Blk W g old t) (GE : Aside0 (w.heap.size ≤ g)) (hgd : o.guard = none) (ty : TypeId) (x y : Operand) (ho : o.op = .store ty x y) (hx : a.eval x = .pointer (some ⟨g, 0, none⟩)) (hy : a.eval y = .agg cs)
    (hi : (P.info? ty).map (·.size) = some cs.size) (hold : old.size = cs.size) (h1 : cs.all (·.oneCell') = true)
    (h : ∀ w1, Blk w1 g cs t → BelowH w w1 → Aside0 (W.heap.size ≤ w1.heap.size ∧ ∀ k, k ≠ g → w1.heap[k]? = W.heap[k]?) → wpList P ops Q rest (a.put o.dst undef) w1) : wpList P ops Q (o :: rest) a W :=
  wpList_store_row hgd ty x y ho g cs hx hy t old B.out hi hold h1 (h _ (B.row cs) (HB.row GE.out cs) ⟨Nat.le_of_eq (setRow_size W g cs).symm, fun k hk => setRow_other W g k cs hk⟩)
/-- '[]byte(s)': a new block, in letters. -/
theorem ev_bytes {w : World} (HB : BelowH w W) (hgd : o.guard = none) (src dst : TypeId) (x : Operand) (ho : o.op = .convert src dst x) (s : ByteArray) (n : Nat) (hn : s.size = n) (hx : a.eval x = .string s) {u : TypeDesc} {e : TypeId}
    (hs : P.underlying src = some u) (hd : P.underlying dst = some (.slice e)) (he : P.underlying e = some (.int .u8))
    (h : ∀ g cap w1, Aside0 (W.heap.size ≤ g) → BelowH w w1 → Aside0 (Below W.heap.size W w1) → Aside0 (∀ j, j < n → w1.cell? ⟨g, j, none⟩ = some (.int .u8 (bt s (j : Int)))) → wpList P ops Q rest (a.put o.dst (.slice (some ⟨g, 0, none⟩) n cap)) w1) :
    wpList P ops Q (o :: rest) a W := by
  have hb : Below W.heap.size W (Lib.bytesWorld W e s) := ⟨rfl, rfl, rfl, by rw [Lib.bytesWorld_size]; omega, fun i hi => Lib.bytesWorld_at_old W e s i hi⟩
  subst hn
  refine Kd.event_run hgd (v := .slice (some ⟨W.heap.size, 0, none⟩) s.size (grownCap W s.size 0 e)) (w1 := Lib.bytesWorld W e s) ?_ (h _ _ _ ⟨Nat.le_refl _⟩ (HB.step hb) ⟨hb⟩ ⟨fun j hj => ?_⟩)
  · unfold execOp
    simp [ho, hx, Lib.run_convert_string_bytes (P := P) W src dst e s hs hd he, Result.andThen]
  · rw [Lib.bytesWorld_cell W e s j hj]
    unfold bt
    rw [dif_pos (by simpa using hj)]
    simp only [Int.toNat_natCast]
    congr 2
    rw [List.getD_eq_getElem?_getD]
    have : s.data.toList[j]? = some s[j] := by
      rw [Array.getElem?_toList]
      exact Array.getElem?_eq_getElem hj
    rw [this]
    rfl
/-- A whole array out of the middle of a block. -/
theorem ev_load_mid (hgd : o.guard = none) (ty : TypeId) (x : Operand) (ho : o.op = .load ty x) (g q : Nat) (hx : a.eval x = .pointer (some ⟨g, q, none⟩)) (cs : Array Value)
    (hc : ∀ j, j < cs.size → W.cell? ⟨g, q + j, none⟩ = cs[j]?) {n : Nat} {e : TypeId} (hu : P.underlying ty = some (.array n e)) (hi : (P.info? ty).map (·.size) = some cs.size)
    (h : wpList P ops Q rest (a.put o.dst (.agg cs)) W) : wpList P ops Q (o :: rest) a W := by
  refine wpList_load_mid hgd ty x ho g q hx cs.toList _ (fun j v hv => ?_) hu rfl (by simpa using hi) (by simpa using h)
  have hj : j < cs.size := by
    have := (List.getElem?_eq_some_iff.1 hv).1
    simpa using this
  rw [hc j hj, ← hv, Array.getElem?_toList]
/-- '[n]T(xs)': the array's place. -/
theorem ev_arrayAt (hgd : o.guard = none) (arr : TypeId) (x : Operand) (ho : o.op = .sliceToArrayPointer arr x) (p : Addr) (len cap n : Nat) (e : TypeId) (hx : a.eval x = .slice (some p) len cap) (hu : P.underlying arr = some (.array n e)) (hl : n ≤ len)
    (h : wpList P ops Q rest (a.put o.dst (.pointer (some p))) W) : wpList P ops Q (o :: rest) a W := by
  refine Kd.event_run hgd (v := .pointer (some p)) (w1 := W) ?_ h
  unfold execOp
  simp only [ho, hx]
  have : (Instr.arrayAt arr (.slice (some p) len cap)).run P W = .ok (.pointer (some p)) W := by
    unfold Instr.arrayAt
    rw [Sem.run_bind, run_underlying hu W]
    simp [Result.andThen, Nat.not_lt.2 hl]
  simp [this, Result.andThen]
/-- 'copy(b[:], s)' of a text that fits. -/
theorem ev_copy64 {w : World} (HB : BelowH w W) {g : Nat} {f : Nat → Int} {t : TypeId} (B : Blk W g (blkA f) t) (GE : Aside0 (w.heap.size ≤ g)) (hgd : o.guard = none) (d x : Operand) (dT sT e : TypeId)
    (ho : o.op = .call { callee := .builtin .copy, args := #[d, x], argTypes := #[dT, sT] }) (s : ByteArray) (m : Nat) (hm : s.size = m) (hle : m ≤ 64) (hd : a.eval d = .slice (some ⟨g, 0, none⟩) 64 64) (hx : a.eval x = .string s)
    (hu : P.underlying dT = some (.slice e)) (hs : (P.info? e).map (·.size) = some 1)
    (h : ∀ w1, Blk w1 g (blkA fun j => if j < m then bt s (j : Int) else f j) t → BelowH w w1 → Aside0 (W.heap.size ≤ w1.heap.size ∧ ∀ k, k ≠ g → w1.heap[k]? = W.heap[k]?) → wpList P ops Q rest (a.put o.dst (.int .i64 (m : Int))) w1) :
    wpList P ops Q (o :: rest) a W := by
  subst hm
  have hrun := run_copy_row_string (P := P) W dT sT o.type e g 0 64 64 s (blkA f) t hu hs B.out hle (by rw [blkA_size]; omega)
  have hlen : s.data.toList.length = s.size := by rw [Array.length_toList]; rfl
  have hcs : ((blkA f).toList.take 0 ++ byteCells s.data.toList ++ (blkA f).toList.drop (0 + s.size)).toArray = blkA fun j => if j < s.size then bt s (j : Int) else f j := by
    apply blkA_ext
    · simp [byteCells_length, blkA_size, hlen]
      omega
    · intro j hj
      rw [List.getElem?_toArray]
      simp only [List.take_zero, List.nil_append, Nat.zero_add]
      by_cases h : j < s.size
      · rw [List.getElem?_append_left (by rw [byteCells_length, hlen]; exact h), if_pos h]
        unfold byteCells
        rw [List.getElem?_map]
        have : s.data.toList[j]? = some s[j] := by
          rw [Array.getElem?_toList]
          exact Array.getElem?_eq_getElem h
        rw [this]
        unfold bt
        rw [dif_pos (by simpa using h)]
        rfl
      · rw [List.getElem?_append_right (by rw [byteCells_length, hlen]; omega), if_neg h, List.getElem?_drop, byteCells_length, hlen, Array.getElem?_toList, show s.size + (j - s.size) = j by omega, blkA_get f hj]
  rw [hcs] at hrun
  refine Kd.event_run hgd (v := .int .i64 (s.size : Int)) (w1 := W.setRow g (blkA fun j => if j < s.size then bt s (j : Int) else f j)) ?_
    (h _ (B.row _) (HB.row GE.out _) ⟨Nat.le_of_eq (setRow_size W g _).symm, fun k hk => setRow_other W g k _ hk⟩)
  simp [execOp, ho, resolve, invoke, builtin, hd, hx, hrun, Result.andThen]
  rfl
/-- 'b[l:h]' of an array. -/
theorem ev_sliceArr (hgd : o.guard = none) (t : TypeId) (x lo hi : Operand) (ho : o.op = .slice t x (some lo) (some hi) none) (g l h n : Nat) (L H : Int) (e : TypeId) (hx : a.eval x = .pointer (some ⟨g, 0, none⟩)) (hlo : a.eval lo = .int .i64 L) (hhi : a.eval hi = .int .i64 H)
    (hL : L = (l : Int)) (hH : H = (h : Int)) (hu : P.underlying t = some (.array n e)) (hs : (P.info? e).map (·.size) = some 1) (hlh : l ≤ h) (hhn : h ≤ n) (hln : l < n)
    (hk : wpList P ops Q rest (a.put o.dst (.slice (some ⟨g, l, none⟩) (h - l) (n - l))) W) : wpList P ops Q (o :: rest) a W := by
  subst hL
  subst hH
  refine Kd.event_run hgd (v := .slice (some ⟨g, l, none⟩) (h - l) (n - l)) (w1 := W) ?_ hk
  have hsz : (sizeOf e).run P W = .ok 1 W := by
    cases hq : P.info? e with
    | none => simp [hq] at hs
    | some i => simp [hq] at hs; simp [sizeOf, typeInfo, hq, hs]
  have hadd : (⟨g, 0, none⟩ : Addr).add l = ⟨g, l, none⟩ := by rw [Addr.add_mid, Nat.zero_add]
  have : (Instr.sliceAt t (.pointer (some ⟨g, 0, none⟩)) (some (.int .i64 (l : Int))) (some (.int .i64 (h : Int))) none).run P W = .ok (.slice (some ⟨g, l, none⟩) (h - l) (n - l)) W := by
    have hn : P.arrayLen t = n := by simp [Program.arrayLen, hu]
    have he : P.elem t = e := by simp [Program.elem, hu]
    have hr := run_sliceAt_array_lh (P := P) W t ⟨g, 0, none⟩ (by rw [hn, he]; exact hu) .i64 .i64 (l : Int) (h : Int) (by omega) (by omega) (by rw [hn]; omega)
    rw [hr, he, hsz, hn]
    simp only [Result.andThen_ok, slicedAt, Int.toNat_natCast, Nat.mul_one]
    rw [if_neg (by omega), hadd]
  unfold execOp
  simp [ho, hx, hlo, hhi, this, Result.andThen]
/-- One cell into its block: the run. -/
theorem run_store1 {g i : Nat} {cs : Array Value} {t : TypeId} (B : Blk W g cs t) (hi : i < cs.size) (ty : TypeId) (v : Value) (hs : (P.info? ty).map (·.size) = some 1) (hv : v.oneCell' = true) :
    (storeVar ty ⟨g, i, none⟩ v).run P W = .ok () (W.setRow g (cs.setIfInBounds i v)) := by
  have hc : v.cells = #[v] := by cases v <;> first | rfl | cases hv
  have h := run_storeCells_at P g i t [v] 0 cs W B.out (by simp only [List.length_cons, List.length_nil]; omega) (fun u hu => by rw [List.mem_singleton.1 hu]; exact hv)
  have e : (cs.toList.take (i + 0) ++ [v] ++ cs.toList.drop (i + 0 + [v].length)).toArray = cs.setIfInBounds i v := by
    apply Array.ext_getElem?
    intro j
    rw [Array.getElem?_setIfInBounds, List.getElem?_toArray]
    simp only [Nat.add_zero, List.length_cons, List.length_nil, Nat.zero_add]
    by_cases h1 : j < i
    · rw [List.append_assoc, List.getElem?_append_left (by rw [List.length_take, Array.length_toList]; omega), List.getElem?_take, if_pos h1, if_neg (by omega), Array.getElem?_toList]
    · by_cases h2 : j = i
      · subst h2
        rw [List.append_assoc, List.getElem?_append_right (by rw [List.length_take, Array.length_toList]; omega)]
        simp [Nat.min_eq_left (Nat.le_of_lt hi), hi]
      · rw [List.getElem?_append_right (by simp; omega), if_neg (by omega), List.getElem?_drop, Array.getElem?_toList]
        congr 1
        simp
        omega
  rw [e] at h
  cases hq : P.info? ty with
  | none => simp [hq] at hs
  | some d =>
    simp [hq] at hs
    simp [storeVar, sizeOf, typeInfo, hq, hs, hc, h]
theorem run_load1 {g i : Nat} {cs : Array Value} {t : TypeId} (B : Blk W g cs t) {v : Value} (hi : cs[i]? = some v) (ty : TypeId) (hagg : (isAgg ty).run P W = .ok false W) :
    (loadVar ty ⟨g, i, none⟩).run P W = .ok v W := by
  have := B.cell hi
  simp [loadVar, Sem.run_bind, hagg, load, Sem.run, this]
/-- One cell into its block. -/
theorem ev_store1 {w : World} (HB : BelowH w W) {g i : Nat} {cs : Array Value} {t : TypeId} (B : Blk W g cs t) (GE : Aside0 (w.heap.size ≤ g)) (hgd : o.guard = none) (ty : TypeId) (x y : Operand) (ho : o.op = .store ty x y) (hx : a.eval x = .pointer (some ⟨g, i, none⟩)) (v : Value) (hy : a.eval y = v)
    (hi : i < cs.size) (hs : (P.info? ty).map (·.size) = some 1) (hv : v.oneCell' = true)
    (h : ∀ w1, Blk w1 g (cs.setIfInBounds i v) t → BelowH w w1 → Aside0 (W.heap.size ≤ w1.heap.size ∧ ∀ k, k ≠ g → w1.heap[k]? = W.heap[k]?) → wpList P ops Q rest (a.put o.dst undef) w1) : wpList P ops Q (o :: rest) a W := by
  refine wpList_plain hgd fun K hK => ?_
  have := run_store1 (P := P) B hi ty v hs hv
  unfold Oper.wp execOp
  simp only [ho, hx, hy, Instr.storeAt, Instr.sureAddr, Sem.run_bind, Sem.run_pure, Result.andThen_ok, this]
  exact hK _ _ (h _ (B.row _) (HB.row GE.out _) ⟨Nat.le_of_eq (setRow_size W g _).symm, fun k hk => setRow_other W g k _ hk⟩)
/-- What lies in another block stays. -/
theorem Blk.other {g g' : Nat} {cs : Array Value} {t : TypeId} {w1 : World} (B : Blk W g cs t) (K : Aside0 (W.heap.size ≤ w1.heap.size ∧ ∀ k, k ≠ g' → w1.heap[k]? = W.heap[k]?)) (hne : g ≠ g') : Blk w1 g cs t := ⟨(K.out.2 g hne).trans B.out⟩
end
end Go.Proofs.YtadcgjmhhodnoaaDoorM
