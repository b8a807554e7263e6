/-
  Arguments by value that hold no pointer, opened and shut: arrays and structs of whole numbers and Booleans. No function of the program in sight.
-/
import Derived.Test.YtifpahkgielocaaQd
import Derived.OpenShut
import Derived.ChangeArms
import Derived.Deep.Strs
import Derived.Lib.SmallJoins
import Derived.SizedLaws
namespace Go.Proofs.YtifpahkgielocaaM
open Go Go.RowKit Go.ChangeShapes Go.WideShapes Go.Proofs.YtifpahkgielocaaQ
/-- Does a type hold whole numbers and Booleans alone. -/
def flatT (P : Program) : Nat → TypeId → Bool
  | 0, _ => false
  | n + 1, t => match P.underlying t with
    | some .bool => true
    | some (.int _) => true
    | some .string => true
    | some (.array _ e) => flatT P n e
    | some (.struct fs) => fs.toList.all fun f => flatT P n f.type
    | _ => false
section
variable {H : Type} {enc : TypeId × Value → H} {P : Program} {W W' : World} {base base' : Nat} {sp sp' : Nat → Bool} {held held' : Bool}
theorem mapM_same {α β : Type} {f g : α → Option β} : ∀ {l : List α}, (∀ x ∈ l, f x = g x) → l.mapM f = l.mapM g
  | [], _ => rfl
  | x :: l, h => by
    rw [List.mapM_cons, List.mapM_cons, h x (by simp), mapM_same fun y hy => h y (by simp [hy])]
/-- What they read doesn't hang on the world. -/
theorem flat_indep : ∀ (n : Nat) (t : TypeId), flatT P n t = true → ∀ (fuel : Nat) (cs : List Value), DataW.trod enc P W base sp held fuel t cs = DataW.trod enc P W' base' sp' held' fuel t cs
  | 0, _, h, _, _ => by simp [flatT] at h
  | n + 1, t, h, 0, _ => by simp [DataW.trod]
  | n + 1, t, h, fuel + 1, cs => by
    unfold flatT at h
    cases hu : P.underlying t with
    | none => rw [hu] at h; simp at h
    | some d =>
      rw [hu] at h
      unfold DataW.trod
      rw [hu]
      cases d <;> simp at h
      · rcases cs with _ | ⟨v, _ | ⟨_, _⟩⟩ <;> (try cases v) <;> rfl
      · rcases cs with _ | ⟨v, _ | ⟨_, _⟩⟩ <;> (try cases v) <;> rfl
      · rcases cs with _ | ⟨v, _ | ⟨_, _⟩⟩ <;> (try cases v) <;> rfl
      · dsimp only
        split
        · rw [mapM_same fun i _ => flat_indep n _ h fuel _]
        · rfl
      · dsimp only
        split
        · rw [mapM_same fun f hf => flat_indep n f.type (by
            obtain ⟨i, hi, rfl⟩ := List.getElem_of_mem hf
            exact h i (by simpa using hi)) fuel _]
        · rfl
/-- An array of whole numbers, opened: its cells. -/
theorem open_cells {t e : TypeId} {n fuel : Nat} {k : IntKind} {cs : List Value} {x : DataW H × List MemPlace} (ht : P.underlying t = some (.array n e)) (he : P.underlying e = some (.int k)) (hc : P.cellsOf e = 1)
    (h : DataW.trod enc P W base sp held fuel t cs = some x) : x.2 = [] ∧ cs.length = P.cellsOf t ∧ ∀ i, i < n → ∃ a, cs[i]? = some (.int k a) ∧ (Lit.int k a).wf = true := by
  obtain ⟨xs, m, _, rfl, hl, hxs, hall⟩ := DataW.trod_array ht h
  rw [hc] at hall
  have key : ∀ i, i < n → ∃ a y, cs[i]? = some (.int k a) ∧ (Lit.int k a).wf = true ∧ xs[i]? = some y ∧ y.2 = [] := by
    intro i hi
    have h1 := hall i hi
    have h2 : xs[i]? = some (xs[i]'(by omega)) := List.getElem?_eq_getElem _
    rw [h2] at h1
    obtain ⟨a, ha, hx, hw⟩ := DataW.trod_int he h1
    refine ⟨a, _, ?_, hw, h2, by rw [hx]⟩
    have h3 := congrArg (fun l => l[0]?) ha
    simp only [Nat.mul_one, List.getElem?_take, List.getElem?_drop] at h3
    simpa using h3
  refine ⟨?_, hl, fun i hi => ?_⟩
  · dsimp only
    rw [List.flatMap_eq_nil_iff]
    intro y hy
    obtain ⟨i, hi, rfl⟩ := List.getElem_of_mem hy
    obtain ⟨_, y, _, _, hy2, hy3⟩ := key i (by omega)
    rw [List.getElem?_eq_getElem hi] at hy2
    rw [Option.some.inj hy2]
    exact hy3
  · obtain ⟨a, _, h1, h2, _⟩ := key i hi
    exact ⟨a, h1, h2⟩
end
section
variable {H : Type} {enc : TypeId × Value → H} {P : Program} {W : World} {base : Nat} {sp : Nat → Bool} {held : Bool}
/-- What is shut again: in any world. -/
def Shuts (enc : TypeId × Value → H) (P : Program) (t : TypeId) (v : Value) (d : DataW H) : Prop := ∀ (W' : World) (base' : Nat) (sp' : Nat → Bool) (held' : Bool), DataW.Trod enc P W' base' sp' held' t v d []
/-- [64]byte by value. -/
theorem open_b64 {r : Reach} {b0 : Nat} {t e : TypeId} {v : Value} {d : DataW H} {p : List MemPlace} (ht : P.underlying t = some (.array 64 e)) (he : P.underlying e = some (.int .u8)) (hc : P.cellsOf e = 1) (hct : P.cellsOf t = 64) (hfl : flatT P 3 t = true)
    (hv : Value.okWide P W r b0 t v) (h : DataW.Trod enc P W base sp held t v d p) :
    ∃ f : Nat → Int, v = .agg (blkA f) ∧ p = [] ∧ Shuts enc P t v d ∧ ∀ i, 0 ≤ f i ∧ f i < 256 := by
  simp only [Value.okWide, ht] at hv
  obtain ⟨cs, rfl, hsz, _⟩ := hv
  obtain ⟨fuel, hf⟩ := h
  obtain ⟨hp, hl, hall⟩ := open_cells ht he hc hf
  dsimp only at hp
  subst hp
  have hsz2 : cs.size = 64 := by rw [hsz, hct]
  refine ⟨fun i => match cs[i]? with | some (.int _ a) => a | _ => 0, ?_, rfl, fun W' base' sp' held' => ⟨fuel, by rw [← flat_indep (W := W) (base := base) (sp := sp) (held := held) 3 t hfl fuel]; exact hf⟩, fun i => ?_⟩
  · refine congrArg Value.agg (blkA_ext hsz2 fun i hi => ?_)
    obtain ⟨a, ha, _⟩ := hall i hi
    have ha2 : cs[i]? = some (.int .u8 a) := by simpa [Value.cells] using ha
    rw [ha2]
  · by_cases hi : i < 64
    · obtain ⟨a, ha, hw⟩ := hall i hi
      have ha2 : cs[i]? = some (.int .u8 a) := by simpa [Value.cells] using ha
      dsimp only
      rw [ha2]
      have := hw
      simp [Lit.wf, IntKind.min, IntKind.max, IntKind.signed, IntKind.bits] at this
      dsimp only
      omega
    · dsimp only
      rw [Array.getElem?_eq_none (by omega)]
      dsimp only
      omega
/-- A class by value. -/
theorem open_cls {r : Reach} {b0 : Nat} {t q e : TypeId} {f0 : Field} {v : Value} {d : DataW H} {p : List MemPlace} (ht : P.underlying t = some (.struct #[f0])) (h0 : f0.type = q) (h00 : f0.offset = 0) (hq : P.underlying q = some (.array 4 e)) (he : P.underlying e = some (.int .u64)) (hc : P.cellsOf e = 1) (hcq : P.cellsOf q = 4) (hct : P.cellsOf t = 4) (hfl : flatT P 4 t = true)
    (hv : Value.okWide P W r b0 t v) (h : DataW.Trod enc P W base sp held t v d p) :
    ∃ c : Nat → Bool, v = .agg (clsA c) ∧ p = [] ∧ Shuts enc P t v d := by
  simp only [Value.okWide, ht] at hv
  obtain ⟨cs, rfl, hsz, _⟩ := hv
  obtain ⟨fuel, hf⟩ := h
  obtain ⟨y0, n, hx, _, hy⟩ := trod_struct1 ht hf
  rw [h0, h00, hcq] at hy
  have hl4 : cs.toList.length = 4 := by rw [Array.length_toList, hsz, hct]
  have hcs : ((Value.agg cs).cells.toList.drop 0).take 4 = cs.toList := by
    show (cs.toList.drop 0).take 4 = cs.toList
    rw [List.drop_zero, List.take_of_length_le (by omega)]
  rw [hcs] at hy
  obtain ⟨hp, _, hall⟩ := open_cells hq he hc hy
  simp only [Prod.mk.injEq] at hx
  have hp2 : p = [] := by rw [hx.2]; simpa using hp
  subst hp2
  have key : ∀ i, i < 4 → ∃ b : BitVec 64, cs[i]? = some (.int .u64 (iv b)) := by
    intro i hi
    obtain ⟨a, ha, hw⟩ := hall i hi
    have := hw
    simp [Lit.wf, IntKind.min, IntKind.max, IntKind.signed, IntKind.bits] at this
    obtain ⟨b, rfl⟩ := iv_of (x := a) (by omega) (by omega)
    exact ⟨b, by simpa using ha⟩
  obtain ⟨g, hg⟩ : ∃ g : Nat → BitVec 64, ∀ i, i < 4 → cs[i]? = some (.int .u64 (iv (g i))) :=
    ⟨fun i => if hi : i < 4 then (key i hi).choose else 0, fun i hi => by
      dsimp only
      rw [dif_pos hi]
      exact (key i hi).choose_spec⟩
  refine ⟨fun x => (g (x / 64)).getLsbD (x % 64), ?_, rfl, fun W' base' sp' held' => ⟨fuel, by rw [← flat_indep (W := W) (base := base) (sp := sp) (held := held) 4 t hfl fuel]; exact hf⟩⟩
  refine congrArg Value.agg (clsA_ext (by rw [hsz, hct]) fun i hi => ?_)
  rw [hg i hi]
  congr 3
  refine eq_word fun j hj => ?_
  dsimp only
  rw [show (64 * i + j) / 64 = i by omega, show (64 * i + j) % 64 = j by omega]
/-- The four cells of a class. -/
theorem cls_cells {t q e : TypeId} {f0 : Field} {fuel : Nat} {cs : List Value} {x : DataW H × List MemPlace} (ht : P.underlying t = some (.struct #[f0])) (h0 : f0.type = q) (h00 : f0.offset = 0) (hq : P.underlying q = some (.array 4 e)) (he : P.underlying e = some (.int .u64)) (hc : P.cellsOf e = 1) (hcq : P.cellsOf q = 4)
    (hl4 : cs.length = 4) (hf : DataW.trod enc P W base sp held fuel t cs = some x) : x.2 = [] ∧ ∃ c : Nat → Bool, cs = [.int .u64 (iv (clsW c 0)), .int .u64 (iv (clsW c 1)), .int .u64 (iv (clsW c 2)), .int .u64 (iv (clsW c 3))] := by
  obtain ⟨y0, n, hx, _, hy⟩ := trod_struct1 ht hf
  rw [h0, h00, hcq, List.drop_zero, List.take_of_length_le (by omega)] at hy
  obtain ⟨hp, _, hall⟩ := open_cells hq he hc hy
  have key : ∀ i, i < 4 → ∃ b : BitVec 64, cs[i]? = some (.int .u64 (iv b)) := by
    intro i hi
    obtain ⟨a, ha, hw⟩ := hall i hi
    have := hw
    simp [Lit.wf, IntKind.min, IntKind.max, IntKind.signed, IntKind.bits] at this
    obtain ⟨b, rfl⟩ := iv_of (x := a) (by omega) (by omega)
    exact ⟨b, ha⟩
  obtain ⟨g, hg⟩ : ∃ g : Nat → BitVec 64, ∀ i, i < 4 → cs[i]? = some (.int .u64 (iv (g i))) :=
    ⟨fun i => if hi : i < 4 then (key i hi).choose else 0, fun i hi => by
      dsimp only
      rw [dif_pos hi]
      exact (key i hi).choose_spec⟩
  have hw : ∀ i, i < 4 → clsW (fun x => (g (x / 64)).getLsbD (x % 64)) i = g i := fun i hi => by
    refine (eq_word fun j hj => ?_).symm
    dsimp only
    rw [show (64 * i + j) / 64 = i by omega, show (64 * i + j) % 64 = j by omega]
  refine ⟨by rw [hx]; simpa using hp, fun x => (g (x / 64)).getLsbD (x % 64), ?_⟩
  rw [hw 0 (by decide), hw 1 (by decide), hw 2 (by decide), hw 3 (by decide)]
  obtain ⟨a0, a1, a2, a3, rfl⟩ : ∃ a0 a1 a2 a3, cs = [a0, a1, a2, a3] := by
    match cs, hl4 with
    | [a0, a1, a2, a3], _ => exact ⟨a0, a1, a2, a3, rfl⟩
  have e0 := Option.some.inj (hg 0 (by decide))
  have e1 := Option.some.inj (hg 1 (by decide))
  have e2 := Option.some.inj (hg 2 (by decide))
  have e3 := Option.some.inj (hg 3 (by decide))
  rw [e0, e1, e2, e3]
/-- Two classes, a text and a byte, by value. -/
theorem open_classes {r : Reach} {b0 : Nat} {t tc q e ts tb : TypeId} {f0 k0 k1 k2 k3 : Field} {v : Value} {d : DataW H} {p : List MemPlace} (ht : P.underlying t = some (.struct #[k0, k1, k2, k3]))
    (hk : (k0.type, k0.offset, k1.type, k1.offset, k2.type, k2.offset, k3.type, k3.offset) = (tc, 0, tc, 4, ts, 8, tb, 9))
    (htc : P.underlying tc = some (.struct #[f0])) (h0 : f0.type = q) (h00 : f0.offset = 0) (hq : P.underlying q = some (.array 4 e)) (he : P.underlying e = some (.int .u64)) (hs : P.underlying ts = some .string) (hb : P.underlying tb = some (.int .u8))
    (hc : P.cellsOf e = 1) (hcq : P.cellsOf q = 4) (hctc : P.cellsOf tc = 4) (hcs : P.cellsOf ts = 1) (hcb : P.cellsOf tb = 1) (hct : P.cellsOf t = 10) (hfl : flatT P 5 t = true)
    (hv : Value.okWide P W r b0 t v) (h : DataW.Trod enc P W base sp held t v d p) :
    ∃ (c c' : Nat → Bool) (s : ByteArray) (x : Int), v = .agg #[.int .u64 (iv (clsW c 0)), .int .u64 (iv (clsW c 1)), .int .u64 (iv (clsW c 2)), .int .u64 (iv (clsW c 3)), .int .u64 (iv (clsW c' 0)), .int .u64 (iv (clsW c' 1)), .int .u64 (iv (clsW c' 2)), .int .u64 (iv (clsW c' 3)), .string s, .int .u8 x] ∧ p = [] ∧ Shuts enc P t v d ∧
      (0 ≤ x ∧ x < 256) ∧ ∀ n ∈ [s.data.toList.length], n ∈ DataW.weights P t d := by
  simp only [Value.okWide, ht] at hv
  obtain ⟨cs, rfl, hsz, _⟩ := hv
  obtain ⟨fuel, hf⟩ := h
  have hshut : Shuts enc P t (.agg cs) d ∨ p ≠ [] := by
    by_cases g : p = []
    · subst g
      exact .inl fun W' base' sp' held' => ⟨fuel, by rw [← flat_indep (W := W) (base := base) (sp := sp) (held := held) 5 t hfl fuel]; exact hf⟩
    · exact .inr g
  obtain ⟨y0, y1, y2, y3, n, hx, hlen, g0, g1, g2, g3⟩ := Go.Joins.trod_struct4 ht hf
  simp only [Prod.mk.injEq] at hk
  obtain ⟨e0, e1, e2, e3, e4, e5, e6, e7⟩ := hk
  rw [e0, e1, hctc] at g0
  rw [e2, e3, hctc] at g1
  rw [e4, e5, hcs] at g2
  rw [e6, e7, hcb] at g3
  have hl : cs.toList.length = 10 := by rw [Array.length_toList, hsz, hct]
  have hce : (Value.agg cs).cells.toList = cs.toList := rfl
  rw [hce] at g0 g1 g2 g3
  obtain ⟨p0, c, hc0⟩ := cls_cells htc h0 h00 hq he hc hcq (by simp; omega) g0
  obtain ⟨p1, c', hc1⟩ := cls_cells htc h0 h00 hq he hc hcq (by simp; omega) g1
  obtain ⟨s, hs2, hy2, _⟩ := DataW.trod_string hs g2
  obtain ⟨x, hx3, hy3, hw3⟩ := DataW.trod_int hb g3
  simp only [Prod.mk.injEq] at hx
  have hp : p = [] := by rw [hx.2, p0, p1, hy2, hy3]; rfl
  have hcs2 : cs = #[.int .u64 (iv (clsW c 0)), .int .u64 (iv (clsW c 1)), .int .u64 (iv (clsW c 2)), .int .u64 (iv (clsW c 3)), .int .u64 (iv (clsW c' 0)), .int .u64 (iv (clsW c' 1)), .int .u64 (iv (clsW c' 2)), .int .u64 (iv (clsW c' 3)), .string s, .int .u8 x] := by
    obtain ⟨l⟩ := cs
    obtain ⟨v0, v1, v2, v3, v4, v5, v6, v7, v8, v9, rfl⟩ : ∃ v0 v1 v2 v3 v4 v5 v6 v7 v8 v9, l = [v0, v1, v2, v3, v4, v5, v6, v7, v8, v9] := by
      match l, hl with
      | [v0, v1, v2, v3, v4, v5, v6, v7, v8, v9], _ => exact ⟨v0, v1, v2, v3, v4, v5, v6, v7, v8, v9, rfl⟩
    simp at hc0 hc1 hs2 hx3
    simp [hc0, hc1, hs2, hx3]
  refine ⟨c, c', s, x, by rw [hcs2], hp, hshut.resolve_right (fun g => g hp), ?_, fun m hm => ?_⟩
  · have := hw3
    simp [Lit.wf, IntKind.min, IntKind.max, IntKind.signed, IntKind.bits] at this
    omega
  · rw [hx.1]
    simp only [List.mem_singleton] at hm
    subst hm
    unfold DataW.weights
    rw [ht]
    refine DataW.weights_mem_each (ts := [k0.type, k1.type, k2.type, k3.type]) (j := 2) (t := k2.type) (d := y2.1) rfl rfl _ ?_
    rw [hy2]
    simp [DataW.weights]
/-- An array of Booleans, opened: its cells. -/
theorem open_bcells {t e : TypeId} {n fuel : Nat} {cs : List Value} {x : DataW H × List MemPlace} (ht : P.underlying t = some (.array n e)) (he : P.underlying e = some .bool) (hc : P.cellsOf e = 1)
    (h : DataW.trod enc P W base sp held fuel t cs = some x) : x.2 = [] ∧ ∀ i, i < n → ∃ a, cs[i]? = some (.bool a) := by
  obtain ⟨xs, m, _, rfl, hl, hxs, hall⟩ := DataW.trod_array ht h
  rw [hc] at hall
  have key : ∀ i, i < n → ∃ a y, cs[i]? = some (.bool a) ∧ xs[i]? = some y ∧ y.2 = [] := by
    intro i hi
    have h1 := hall i hi
    have h2 : xs[i]? = some (xs[i]'(by omega)) := List.getElem?_eq_getElem _
    rw [h2] at h1
    obtain ⟨a, ha, hx⟩ := DataW.trod_bool he h1
    refine ⟨a, _, ?_, h2, by rw [hx]⟩
    have h3 := congrArg (fun l => l[0]?) ha
    simp only [Nat.mul_one, List.getElem?_take, List.getElem?_drop] at h3
    simpa using h3
  refine ⟨?_, fun i hi => ?_⟩
  · dsimp only
    rw [List.flatMap_eq_nil_iff]
    intro y hy
    obtain ⟨i, hi, rfl⟩ := List.getElem_of_mem hy
    obtain ⟨_, y, _, hy2, hy3⟩ := key i (by omega)
    rw [List.getElem?_eq_getElem hi] at hy2
    rw [Option.some.inj hy2]
    exact hy3
  · obtain ⟨a, _, h1, _⟩ := key i hi
    exact ⟨a, h1⟩
/-- A Part by value: two Booleans, two numbers. -/
theorem open_part {r : Reach} {b0 : Nat} {t tb2 ti2 tb ti : TypeId} {k0 k1 : Field} {v : Value} {d : DataW H} {p : List MemPlace} (ht : P.underlying t = some (.struct #[k0, k1]))
    (e0 : k0.type = tb2) (e1 : k0.offset = 0) (e2 : k1.type = ti2) (e3 : k1.offset = 2) (hb2 : P.underlying tb2 = some (.array 2 tb)) (hi2 : P.underlying ti2 = some (.array 2 ti)) (hb : P.underlying tb = some .bool) (hi : P.underlying ti = some (.int .i64))
    (hcb2 : P.cellsOf tb2 = 2) (hci2 : P.cellsOf ti2 = 2) (hcb : P.cellsOf tb = 1) (hci : P.cellsOf ti = 1) (hct : P.cellsOf t = 4) (hfl : flatT P 4 t = true)
    (hv : Value.okWide P W r b0 t v) (h : DataW.Trod enc P W base sp held t v d p) :
    ∃ (o : Nat → Bool) (u : Nat → Int), v = .agg #[.bool (o 0), .bool (o 1), .int .i64 (u 0), .int .i64 (u 1)] ∧ p = [] ∧ Shuts enc P t v d ∧ True := by
  simp only [Value.okWide, ht] at hv
  obtain ⟨cs, rfl, hsz, _⟩ := hv
  obtain ⟨fuel, hf⟩ := h
  have hshut : Shuts enc P t (.agg cs) d ∨ p ≠ [] := by
    by_cases g : p = []
    · subst g
      exact .inl fun W' base' sp' held' => ⟨fuel, by rw [← flat_indep (W := W) (base := base) (sp := sp) (held := held) 4 t hfl fuel]; exact hf⟩
    · exact .inr g
  obtain ⟨y0, y1, n, hx, _, g0, g1⟩ := trod_struct2 ht hf
  rw [e0, e1, hcb2] at g0
  rw [e2, e3, hci2] at g1
  have hl : cs.toList.length = 4 := by rw [Array.length_toList, hsz, hct]
  have hce : (Value.agg cs).cells.toList = cs.toList := rfl
  rw [hce] at g0 g1
  obtain ⟨p0, hb0⟩ := open_bcells hb2 hb hcb g0
  obtain ⟨p1, _, hi0⟩ := open_cells hi2 hi hci g1
  simp only [Prod.mk.injEq] at hx
  have hp : p = [] := by rw [hx.2, p0, p1]; rfl
  obtain ⟨l⟩ := cs
  obtain ⟨v0, v1, v2, v3, rfl⟩ : ∃ v0 v1 v2 v3, l = [v0, v1, v2, v3] := by
    match l, hl with
    | [v0, v1, v2, v3], _ => exact ⟨v0, v1, v2, v3, rfl⟩
  obtain ⟨a0, h0⟩ := hb0 0 (by decide)
  obtain ⟨a1, h1⟩ := hb0 1 (by decide)
  obtain ⟨z0, h2, _⟩ := hi0 0 (by decide)
  obtain ⟨z1, h3, _⟩ := hi0 1 (by decide)
  simp at h0 h1 h2 h3
  subst h0 h1 h2 h3
  exact ⟨fun j => if j = 0 then a0 else a1, fun j => if j = 0 then z0 else z1, rfl, hp, hshut.resolve_right (fun g => g hp), trivial⟩
end
end Go.Proofs.YtifpahkgielocaaM
