/-
  MarksIndexes: for every text of at most 1048576 bytes, marks.Index and the document's Index are the same; and in '{"a b" : [1,true]}' it tells the nine places.
-/
import Derived.Test.YtadcgjmhhodnoaaDoorPIx8
import Derived.Test.YtadcgjmhhodnoaaDoorQi
namespace Go.Proofs.YtadcgjmhhodnoaaDoor.Pure
open Go Go.RowKit Go.Proofs.YtadcgjmhhodnoaaDoor.PI Go.Proofs.YtadcgjmhhodnoaaDoorW.PrintWords Go.Proofs.YtadcgjmhhodnoaaDoorW.PrintLast Go.Proofs.YtadcgjmhhodnoaaDoorQ
set_option linter.unusedVariables false
set_option linter.unusedSimpArgs false
theorem div_step (v : BitVec 64) (d : Nat) : v.toNat / 2 ^ d = 2 * (v.toNat / 2 ^ (d + 1)) + (if v.getLsbD d = true then 1 else 0) := by
  have h1 : v.toNat / 2 ^ (d + 1) = v.toNat / 2 ^ d / 2 := by rw [Nat.pow_succ, Nat.div_div_eq_div_mul]
  have h2 : v.getLsbD d = decide (v.toNat / 2 ^ d % 2 = 1) := by
    show v.toNat.testBit d = _
    rw [Nat.testBit_eq_decide_div_mod_eq]
  rw [h1, h2]
  by_cases h : v.toNat / 2 ^ d % 2 = 1
  · rw [decide_eq_true h, if_pos rfl]; omega
  · rw [decide_eq_false h, if_neg (by decide)]; omega
theorem need_eq (n : Nat) (h : n ≤ 140737488355328) : quarryref04_need.f (n : Int) = some ((nwords n : Nat) : Int) := by
  unfold quarryref04_need.f
  have e1 : Int.tmod (n : Int) 64 = ((n % 64 : Nat) : Int) := rfl
  have e2 : Int.tdiv (n : Int) 64 = ((n / 64 : Nat) : Int) := rfl
  have e3 : wrap64 ((n / 64 : Nat) : Int) = ((n / 64 : Nat) : Int) := by unfold wrap64; omega
  rw [e1, e2, e3]
  have e4 : wrap64 (((n / 64 : Nat) : Int) + 1) = ((n / 64 : Nat) : Int) + 1 := by unfold wrap64; omega
  rw [e4]
  unfold nwords
  by_cases h : n % 64 = 0
  · rw [if_pos (by omega)]; congr 1; omega
  · rw [if_neg (by omega)]; congr 1; omega
theorem of_inner (l : List Bool) (w : Nat) (hw : w ≤ 2199023255552) (z : Int) (ws : List Int) (hs : ws.length < 17592186044416) :
    ∀ (d k : Nat), d ≤ 64 → quarryref04_Of.l1 (k + d + 1) l (w : Int) (((wordAt l.length (fun i => l.getD i false) w).toNat / 2 ^ d : Nat) : Int) ((d : Int) - 1) z ws =
      quarryref04_Of.l0 k l ((w + 1 : Nat) : Int) z (ws ++ [iv (wordAt l.length (fun i => l.getD i false) w)]) := by
  intro d
  induction d with
  | zero =>
    intro k hd
    have e : wrap64 ((w : Int) + 1) = ((w + 1 : Nat) : Int) := by unfold wrap64; omega
    unfold quarryref04_Of.l1
    rw [if_neg (by omega), if_pos hs, e, Nat.pow_zero, Nat.div_one]
    rfl
  | succ d ih =>
    intro k hd
    have e0 : wrap64 (64 * (w : Int)) = 64 * (w : Int) := by unfold wrap64; omega
    have e1 : wrap64 (64 * (w : Int) + (((d + 1 : Nat) : Int) - 1)) = ((64 * w + d : Nat) : Int) := by unfold wrap64; omega
    have e2 : wrap64 ((((d + 1 : Nat) : Int) - 1) - 1) = (d : Int) - 1 := by unfold wrap64; omega
    have hst := div_step (wordAt l.length (fun i => l.getD i false) w) d
    have hlt : (wordAt l.length (fun i => l.getD i false) w).toNat / 2 ^ d < 18446744073709551616 := Nat.lt_of_le_of_lt (Nat.div_le_self _ _) (wordAt l.length (fun i => l.getD i false) w).isLt
    have hbit : (wordAt l.length (fun i => l.getD i false) w).getLsbD d = (decide (64 * w + d < l.length) && l.getD (64 * w + d) false) := by
      unfold wordAt
      rw [word_bit]
      simp [show d < 64 by omega]
    have hi := ih k (by omega)
    rw [hbit] at hst
    generalize (wordAt l.length (fun i => l.getD i false) w).toNat / 2 ^ d = X at hst hlt hi ⊢
    generalize (wordAt l.length (fun i => l.getD i false) w).toNat / 2 ^ (d + 1) = Y at hst ⊢
    have er : rdOf false l ((64 * w + d : Nat) : Int) = l.getD (64 * w + d) false := by unfold rdOf; rw [Int.toNat_natCast]
    show quarryref04_Of.l1 ((k + d + 1) + 1) l _ _ _ z ws = _
    unfold quarryref04_Of.l1
    rw [if_pos (by omega), e0, e1, e2, er]
    by_cases h : 64 * w + d < l.length
    · rw [if_pos (by omega), if_pos (by omega)]
      rw [decide_eq_true h, Bool.true_and] at hst
      by_cases g : l.getD (64 * w + d) false = true
      · rw [if_pos g] at hst ⊢
        have e3 : IntKind.u64.wrap (IntKind.u64.wrap (2 * (Y : Int)) + 1) = (X : Int) := by rw [IntKind.wrap_u64, IntKind.wrap_u64]; omega
        rw [e3]
        exact hi
      · rw [if_neg g] at hst ⊢
        have e3 : IntKind.u64.wrap (2 * (Y : Int)) = (X : Int) := by rw [IntKind.wrap_u64]; omega
        rw [e3]
        exact hi
    · rw [if_neg (by omega)]
      rw [decide_eq_false h, Bool.false_and, if_neg (by decide)] at hst
      have e3 : IntKind.u64.wrap (2 * (Y : Int)) = (X : Int) := by rw [IntKind.wrap_u64]; omega
      rw [e3]
      exact hi
theorem of_loop (l : List Bool) (hl : l.length ≤ 140737488355328) (z : Int) :
    ∀ (d i k : Nat), i + d = nwords l.length → 66 * d < k → quarryref04_Of.l0 k l (i : Int) z ((List.range i).map fun j => iv (wordAt l.length (fun i => l.getD i false) j)) = some (z, wordsOf l.length fun i => l.getD i false) := by
  have hw : nwords l.length ≤ 2199023255552 := by unfold nwords; omega
  intro d
  induction d with
  | zero =>
    intro i k hi hk
    obtain ⟨k, rfl⟩ : ∃ m, k = m + 1 := ⟨k - 1, by omega⟩
    unfold quarryref04_Of.l0
    rw [need_eq _ hl, Option.bind_some, if_neg (by omega), show i = nwords l.length by omega]
    rfl
  | succ d ih =>
    intro i k hi hk
    obtain ⟨k, rfl⟩ : ∃ m, k = (m + 64 + 1) + 1 := ⟨k - 66, by omega⟩
    unfold quarryref04_Of.l0
    rw [need_eq _ hl, Option.bind_some, if_pos (by omega)]
    have := of_inner l i (by omega) z ((List.range i).map fun j => iv (wordAt l.length (fun i => l.getD i false) j)) (by rw [List.length_map, List.length_range]; omega) 64 k (by omega)
    have e : (wordAt l.length (fun i => l.getD i false) i).toNat / 2 ^ 64 = 0 := Nat.div_eq_of_lt (wordAt l.length (fun i => l.getD i false) i).isLt
    rw [e] at this
    have h2 := ih (i + 1) k (by omega) (by omega)
    rw [List.range_succ, List.map_append] at h2
    exact this.trans h2
/-- The document's Of: the bits of a list, 64 in a word. -/
theorem of_eq (l : List Bool) (hl : l.length ≤ 140737488355328) (k : Nat) (hk : 66 * nwords l.length < k) : quarryref04_Of.f k l = some ((l.length : Int), wordsOf l.length fun i => l.getD i false) := by
  unfold quarryref04_Of.f
  exact of_loop l hl _ (nwords l.length) 0 k (by omega) (by omega)
theorem set_step {α : Type} (n : Nat) (f d : Nat → α) {i : Nat} (h : i < n) : ((List.range n).map fun j => if j < i then f j else d j).set i (f i) = (List.range n).map fun j => if j < i + 1 then f j else d j := by
  apply List.ext_getElem?
  intro j
  rw [List.getElem?_set, List.getElem?_map, List.getElem?_map, List.length_map, List.length_range]
  by_cases hj : j < n
  · rw [List.getElem?_range hj]
    by_cases e : i = j
    · subst e
      rw [if_pos rfl, if_pos hj]
      simp
    · rw [if_neg e]
      by_cases g : j < i
      · simp [g, show j < i + 1 by omega]
      · simp [g, show ¬ j < i + 1 by omega]
  · rw [List.getElem?_eq_none (by rw [List.length_range]; omega), if_neg (by omega)]
    simp
theorem set_done {α : Type} (n : Nat) (f d : Nat → α) : ((List.range n).map fun j => if j < n then f j else d j) = (List.range n).map f := List.map_congr_left fun j hj => if_pos (List.mem_range.1 hj)
theorem w64s (i n : Nat) (h : i < n) (hn : n ≤ 281474976702464) : wrap64 ((i : Int) + 1) = ((i + 1 : Nat) : Int) := by unfold wrap64; omega
theorem marks7_loop (s : ByteArray) (hn : s.size ≤ 140737488351232) :
    ∀ (d i k : Nat), i + d = s.size → d < k → quarryref07_marks.l0 k s ((List.range s.size).map fun j => if j < i then mkq s j else false) (esc s false i) (i : Int) = some ((List.range s.size).map (mkq s)) := by
  intro d
  induction d with
  | zero =>
    intro i k hi hk
    obtain ⟨k, rfl⟩ : ∃ m, k = m + 1 := ⟨k - 1, by omega⟩
    unfold quarryref07_marks.l0
    rw [if_neg (by omega), show i = s.size by omega, set_done]
  | succ d ih =>
    intro i k hi hk
    obtain ⟨k, rfl⟩ : ∃ m, k = m + 1 := ⟨k - 1, by omega⟩
    have h2 := ih (i + 1) k (by omega) (by omega)
    rw [← set_step s.size (mkq s) (fun _ => false) (show i < s.size by omega)] at h2
    have hl : ((List.range s.size).map fun j => if j < i then mkq s j else false).length = s.size := by simp
    unfold quarryref07_marks.l0
    rw [if_pos (by omega), if_pos (by omega), w64s i s.size (by omega) (by omega)]
    have he : ∀ b : Bool, decide (bt s (i : Int) = 34) = b → mkq s i = (b && !esc s false i) := fun b hb => by unfold mkq; rw [hb]
    have hx : esc s false (i + 1) = (decide (bt s (i : Int) = 92) && !esc s false i) := rfl
    by_cases h34 : bt s (i : Int) = 34
    · rw [he true (decide_eq_true h34), Bool.true_and, hx, decide_eq_false (by omega), Bool.false_and] at h2
      rw [if_pos h34, if_pos (by rw [hl]; omega), Option.bind_some, Int.toNat_natCast, if_neg (by omega)]
      exact h2
    · rw [he false (decide_eq_false h34), Bool.false_and, hx] at h2
      rw [if_neg h34, if_pos (by rw [hl]; omega), Option.bind_some, Int.toNat_natCast]
      by_cases h92 : bt s (i : Int) = 92
      · rw [decide_eq_true h92, Bool.true_and] at h2
        rw [if_pos h92]
        exact h2
      · rw [decide_eq_false h92, Bool.false_and] at h2
        rw [if_neg h92]
        exact h2
theorem marks7_eq (s : ByteArray) (hn : s.size ≤ 140737488351232) (k : Nat) (hk : s.size < k) : quarryref07_marks.f k s = some ((List.range s.size).map (mkq s)) := by
  have h := marks7_loop s hn s.size 0 k (by omega) hk
  unfold quarryref07_marks.f
  rw [if_pos (by omega), Int.toNat_natCast, if_pos (by omega)]
  have e : ((List.range s.size).map fun j => if j < 0 then mkq s j else false) = List.replicate s.size false := by
    apply List.ext_getElem? 
    intro j
    rw [List.getElem?_map, List.getElem?_replicate]
    by_cases hj : j < s.size
    · rw [List.getElem?_range hj, if_pos hj]
      simp
    · rw [List.getElem?_eq_none (by rw [List.length_range]; omega), if_neg hj]
      rfl
  rw [e] at h
  exact h
theorem inside7_loop (s : ByteArray) (hn : s.size ≤ 140737488351232) :
    ∀ (d i k : Nat), i + d = s.size → d < k → quarryref07_inside.l0 k ((List.range s.size).map fun j => if j < i then insS s j else mkq s j) (par (mkq s) i) (i : Int) = some ((List.range s.size).map (insS s)) := by
  intro d
  induction d with
  | zero =>
    intro i k hi hk
    obtain ⟨k, rfl⟩ : ∃ m, k = m + 1 := ⟨k - 1, by omega⟩
    unfold quarryref07_inside.l0
    rw [if_neg (by simp; omega), show i = s.size by omega, set_done]
  | succ d ih =>
    intro i k hi hk
    obtain ⟨k, rfl⟩ : ∃ m, k = m + 1 := ⟨k - 1, by omega⟩
    have h2 := ih (i + 1) k (by omega) (by omega)
    rw [← set_step s.size (insS s) (mkq s) (show i < s.size by omega)] at h2
    have hr : rdOf false ((List.range s.size).map fun j => if j < i then insS s j else mkq s j) (i : Int) = mkq s i := by
      unfold rdOf
      rw [Int.toNat_natCast, List.getD_eq_getElem?_getD, List.getElem?_map, List.getElem?_range (by omega)]
      simp
    have hi1 : insS s i = (par (mkq s) i ^^ mkq s i) := rfl
    have hp : par (mkq s) (i + 1) = (par (mkq s) i ^^ mkq s i) := rfl
    unfold quarryref07_inside.l0
    rw [if_pos (by simp; omega), if_pos (by omega), w64s i s.size (by omega) (by omega), hr, Int.toNat_natCast]
    rw [hi1, hp] at h2
    cases h : mkq s i
    · rw [h, Bool.xor_false] at h2
      rw [if_neg (by decide)]
      exact h2
    · rw [h, Bool.xor_true] at h2
      rw [if_pos rfl]
      exact h2
theorem inside7_eq (s : ByteArray) (hn : s.size ≤ 140737488351232) (k : Nat) (hk : s.size < k) : quarryref07_inside.f k s = some ((List.range s.size).map (insS s)) := by
  have h := inside7_loop s hn s.size 0 k (by omega) hk
  unfold quarryref07_inside.f
  rw [marks7_eq s hn k hk, Option.bind_some]
  exact h
theorem of_map (n : Nat) (q : Nat → Bool) : (wordsOf n fun i => ((List.range n).map q).getD i false) = wordsOf n q := wordsOf_ext fun i hi => by
  rw [List.getD_eq_getElem?_getD, List.getElem?_map, List.getElem?_range hi]
  rfl
theorem Marks7_eq (s : ByteArray) (hn : s.size ≤ 140737488351232) (k : Nat) (hk : 67 * s.size + 67 < k) : quarryref07_Marks.f k s = some ((s.size : Int), wordsOf s.size (mkq s)) := by
  have hw : nwords s.size ≤ s.size + 1 := by unfold nwords; omega
  unfold quarryref07_Marks.f
  rw [marks7_eq s hn k (by omega), Option.bind_some, of_eq _ (by rw [List.length_map, List.length_range]; omega) k (by rw [List.length_map, List.length_range]; omega), Option.bind_some, List.length_map, List.length_range, of_map]
theorem Inside7_eq (s : ByteArray) (hn : s.size ≤ 140737488351232) (k : Nat) (hk : 67 * s.size + 67 < k) : quarryref07_Inside.f k s = some ((s.size : Int), wordsOf s.size (insS s)) := by
  have hw : nwords s.size ≤ s.size + 1 := by unfold nwords; omega
  unfold quarryref07_Inside.f
  rw [inside7_eq s hn k (by omega), Option.bind_some, of_eq _ (by rw [List.length_map, List.length_range]; omega) k (by rw [List.length_map, List.length_range]; omega), Option.bind_some, List.length_map, List.length_range, of_map]
theorem rd_words (n : Nat) (p : Nat → Bool) (k : Nat) (h : k < nwords n) : rd (wordsOf n p) (k : Int) = iv (wordAt n p k) := by
  unfold rd
  rw [Int.toNat_natCast]
  exact wordsOf_get n p k h
theorem bit_of (n : Nat) (p : Nat → Bool) {i : Nat} (hi : i < n) : (bits .and .u64 (shr .u64 (iv (wordAt n p (i / 64))) ((i % 64 : Nat) : Int)) 1 == 1) = p i := by
  have es : shr .u64 (iv (wordAt n p (i / 64))) ((i % 64 : Nat) : Int) = iv (wordAt n p (i / 64)) / 2 ^ (i % 64) := by
    unfold shr
    rw [Int.toNat_natCast, Nat.min_eq_left (by show i % 64 ≤ 64; omega)]
  rw [es, wordAt, bit_at _ (Nat.mod_lt _ (by decide)), show 64 * (i / 64) + i % 64 = i by omega, decide_eq_true hi, Bool.true_and]
theorem u64w (i : Nat) : IntKind.u64.wrap ((i % 64 : Nat) : Int) = ((i % 64 : Nat) : Int) := by
  rw [wrap_nat, Nat.mod_eq_of_lt (by omega)]
theorem set8_eq (z : Int) (n : Nat) (p : Nat → Bool) (hn : n ≤ 281474976702464) (i : Nat) (hi : i < n) : quarryref08_set.f z (wordsOf n p) (i : Int) = some (p i) := by
  have e1 : Int.tmod (i : Int) 64 = ((i % 64 : Nat) : Int) := rfl
  have e2 : Int.tdiv (i : Int) 64 = ((i / 64 : Nat) : Int) := rfl
  have e3 : wrap64 ((i / 64 : Nat) : Int) = ((i / 64 : Nat) : Int) := by unfold wrap64; omega
  have hw : nwords n = (n + 63) / 64 := rfl
  unfold quarryref08_set.f
  rw [e1, e2, e3, u64w, if_pos (by omega), if_pos (by rw [wordsOf_length]; omega), if_pos (by omega), rd_words n p _ (by omega), bit_of n p hi]
/-- What a byte is. -/
def kindB (s : ByteArray) (i : Nat) : Int := if mkq s i && insS s i then 3 else if mkq s i then 4 else if insS s i then 5 else if sgx (bt s (i : Int)).toNat then 1 else if blx (bt s (i : Int)).toNat then 2 else 6
theorem sgx_int {b : Int} (h : 0 ≤ b ∧ b ≤ 255) : sgx b.toNat = (b == 123 || b == 125 || b == 91 || b == 93 || b == 58 || b == 44) := by
  obtain ⟨n, rfl⟩ : ∃ n : Nat, b = n := ⟨b.toNat, by omega⟩
  rw [Int.toNat_natCast]
  unfold sgx
  rw [Bool.eq_iff_iff]
  simp only [Bool.or_eq_true, beq_iff_eq]
  omega
theorem blx_int {b : Int} (h : 0 ≤ b ∧ b ≤ 255) : blx b.toNat = (b == 32 || b == 9 || b == 10 || b == 13) := by
  obtain ⟨n, rfl⟩ : ∃ n : Nat, b = n := ⟨b.toNat, by omega⟩
  rw [Int.toNat_natCast]
  unfold blx
  rw [Bool.eq_iff_iff]
  simp only [Bool.or_eq_true, beq_iff_eq]
  omega
theorem bytes_end (s : ByteArray) (hn : s.size ≤ 140737488351232) (i k : Nat) (hi : i < s.size) (z1 z2 : Int) (m1 m2 : List Int) (v : Int) (hv : kindB s i = v)
    (R : Option (List Int)) (h : quarryref08_Bytes.l0 k s ((List.range (i + 1)).map (kindB s)) ((i + 1 : Nat) : Int) z1 m1 z2 m2 = R) :
    (if ((List.range i).map (kindB s)).length < 17592186044416 then quarryref08_Bytes.l0 k s ((List.range i).map (kindB s) ++ [v]) (wrap64 ((i : Int) + 1)) z1 m1 z2 m2 else none) = R ∨ 17592186044416 ≤ i := by
  by_cases g : i < 17592186044416
  · left
    rw [if_pos (by rw [List.length_map, List.length_range]; exact g), w64s i s.size hi (by omega), ← hv]
    rw [List.range_succ, List.map_append] at h
    exact h
  · exact .inr (by omega)
theorem bytes_step2 (s : ByteArray) (i k : Nat) (z1 z2 : Int) (m1 m2 : List Int) (R : Option (List Int))
    (h : ∀ v, kindB s i = v → (if ((List.range i).map (kindB s)).length < 17592186044416 then quarryref08_Bytes.l0 k s ((List.range i).map (kindB s) ++ [v]) (wrap64 ((i : Int) + 1)) z1 m1 z2 m2 else none) = R)
    (h0 : mkq s i = false) (h1 : insS s i = false) (x : Bool) (hx : x = sgx (bt s (i : Int)).toNat) :
    quarryref08_Bytes.j2 (k + 1) s ((List.range i).map (kindB s)) (i : Int) (bt s (i : Int)) x z1 m1 z2 m2 = R := by
  have hb := blx_int (bt_range s (i : Int))
  unfold quarryref08_Bytes.j2
  cases hx1 : x with
  | true =>
    rw [if_pos rfl]
    exact h 1 (by unfold kindB; rw [h0, h1, ← hx, hx1]; rfl)
  | false =>
    rw [if_neg (by decide)]
    have hk : kindB s i = if blx (bt s (i : Int)).toNat then 2 else 6 := by unfold kindB; rw [h0, h1, ← hx, hx1]; rfl
    by_cases g1 : bt s (i : Int) = 32
    · rw [if_pos g1]; exact h 2 (by rw [hk, hb, g1]; rfl)
    rw [if_neg g1]
    by_cases g2 : bt s (i : Int) = 9
    · rw [if_pos g2]; exact h 2 (by rw [hk, hb, g2]; rfl)
    rw [if_neg g2]
    by_cases g3 : bt s (i : Int) = 10
    · rw [if_pos g3]; exact h 2 (by rw [hk, hb, g3]; rfl)
    rw [if_neg g3]
    by_cases g4 : bt s (i : Int) = 13
    · rw [if_pos g4]; exact h 2 (by rw [hk, hb, g4]; rfl)
    rw [if_neg g4]
    exact h 6 (by rw [hk, hb]; simp [g1, g2, g3, g4])
theorem bytes_step1 (s : ByteArray) (hn : s.size ≤ 140737488351232) (i k : Nat) (hi : i < s.size) (z1 z2 : Int) (R : Option (List Int)) (q : Bool) (hq : q = (mkq s i && insS s i))
    (h : ∀ k' v, k' = k ∨ k' = k + 1 → kindB s i = v → (if ((List.range i).map (kindB s)).length < 17592186044416 then quarryref08_Bytes.l0 k' s ((List.range i).map (kindB s) ++ [v]) (wrap64 ((i : Int) + 1)) z1 (wordsOf s.size (mkq s)) z2 (wordsOf s.size (insS s)) else none) = R) :
    quarryref08_Bytes.j1 (k + 2) s ((List.range i).map (kindB s)) (i : Int) (bt s (i : Int)) q z1 (wordsOf s.size (mkq s)) z2 (wordsOf s.size (insS s)) = R := by
  have hs := sgx_int (bt_range s (i : Int))
  unfold quarryref08_Bytes.j1
  cases hq1 : q with
  | true =>
    rw [if_pos rfl]
    exact h _ 3 (.inr rfl) (by unfold kindB; rw [← hq, hq1]; rfl)
  | false =>
    rw [if_neg (by decide), set8_eq _ _ _ (by omega) i hi, Option.bind_some]
    have hk : kindB s i = if mkq s i then 4 else if insS s i then 5 else if sgx (bt s (i : Int)).toNat then 1 else if blx (bt s (i : Int)).toNat then 2 else 6 := by unfold kindB; rw [← hq, hq1]; rfl
    by_cases hm : mkq s i = true
    · rw [if_pos hm]
      exact h _ 4 (.inr rfl) (by rw [hk, hm]; rfl)
    have hm0 : mkq s i = false := by simpa using hm
    rw [if_neg hm, set8_eq _ _ _ (by omega) i hi, Option.bind_some]
    by_cases hin : insS s i = true
    · rw [if_pos hin]
      exact h _ 5 (.inr rfl) (by rw [hk, hm0, hin]; rfl)
    have hin0 : insS s i = false := by simpa using hin
    rw [if_neg hin]
    have st := bytes_step2 s i k z1 z2 (wordsOf s.size (mkq s)) (wordsOf s.size (insS s)) R (fun v hv => h _ v (.inl rfl) hv) hm0 hin0
    by_cases g1 : bt s (i : Int) = 123
    · rw [if_pos g1]; exact st true (by rw [hs, g1]; rfl)
    rw [if_neg g1]
    by_cases g2 : bt s (i : Int) = 125
    · rw [if_pos g2]; exact st true (by rw [hs, g2]; rfl)
    rw [if_neg g2]
    by_cases g3 : bt s (i : Int) = 91
    · rw [if_pos g3]; exact st true (by rw [hs, g3]; rfl)
    rw [if_neg g3]
    by_cases g4 : bt s (i : Int) = 93
    · rw [if_pos g4]; exact st true (by rw [hs, g4]; rfl)
    rw [if_neg g4]
    by_cases g5 : bt s (i : Int) = 58
    · rw [if_pos g5]; exact st true (by rw [hs, g5]; rfl)
    rw [if_neg g5]
    exact st _ (by rw [hs]; simp [g1, g2, g3, g4, g5])
theorem bytes_loop (s : ByteArray) (hn : s.size ≤ 17592186044416) (z1 z2 : Int) :
    ∀ (d i k : Nat), i + d = s.size → 3 * d < k → quarryref08_Bytes.l0 k s ((List.range i).map (kindB s)) (i : Int) z1 (wordsOf s.size (mkq s)) z2 (wordsOf s.size (insS s)) = some ((List.range s.size).map (kindB s)) := by
  intro d
  induction d with
  | zero =>
    intro i k hi hk
    obtain ⟨k, rfl⟩ : ∃ m, k = m + 1 := ⟨k - 1, by omega⟩
    unfold quarryref08_Bytes.l0
    rw [if_neg (by omega), show i = s.size by omega]
  | succ d ih =>
    intro i k hi hk
    obtain ⟨k, rfl⟩ : ∃ m, k = (m + 2) + 1 := ⟨k - 3, by omega⟩
    have hend : ∀ k' v, k' = k ∨ k' = k + 1 → kindB s i = v → (if ((List.range i).map (kindB s)).length < 17592186044416 then quarryref08_Bytes.l0 k' s ((List.range i).map (kindB s) ++ [v]) (wrap64 ((i : Int) + 1)) z1 (wordsOf s.size (mkq s)) z2 (wordsOf s.size (insS s)) else none) = some ((List.range s.size).map (kindB s)) := fun k' v hk' hv => by
      rcases bytes_end s (by omega) i k' (by omega) z1 z2 _ _ v hv _ (ih (i + 1) k' (by omega) (by omega)) with h | h
      · exact h
      · omega
    unfold quarryref08_Bytes.l0
    rw [if_pos (by omega), if_pos (by omega), set8_eq _ _ _ (by omega) i (by omega), Option.bind_some]
    by_cases hm : mkq s i = true
    · rw [if_pos hm, set8_eq _ _ _ (by omega) i (by omega), Option.bind_some]
      exact bytes_step1 s (by omega) i k (by omega) z1 z2 _ _ (by rw [hm, Bool.true_and]) hend
    · rw [if_neg hm]
      exact bytes_step1 s (by omega) i k (by omega) z1 z2 _ _ (by simp [hm]) hend
theorem bytes_eq (s : ByteArray) (hn : s.size ≤ 17592186044416) (k : Nat) (hk : 67 * s.size + 67 < k) : quarryref08_Bytes.f k s = some ((List.range s.size).map (kindB s)) := by
  unfold quarryref08_Bytes.f
  rw [Marks7_eq s (by omega) k hk, Option.bind_some, Inside7_eq s (by omega) k hk, Option.bind_some]
  exact bytes_loop s hn _ _ s.size 0 k (by omega) (by omega)
theorem kb_sg (s : ByteArray) (i : Nat) : sgq s i = decide (kindB s i = 1) := by
  unfold kindB sgq outq
  cases hm : mkq s i <;> cases hn : insS s i <;> cases hs : sgx (bt s (i : Int)).toNat <;> cases hb : blx (bt s (i : Int)).toNat <;> simp
theorem kb_op (s : ByteArray) (i : Nat) : opq s i = decide (kindB s i = 3) := by
  unfold kindB opq
  cases hm : mkq s i <;> cases hn : insS s i <;> cases hs : sgx (bt s (i : Int)).toNat <;> cases hb : blx (bt s (i : Int)).toNat <;> simp
theorem kb_wd (s : ByteArray) (i : Nat) : wdq s i = decide (kindB s i = 6) := by
  unfold wdq sgq blq kindB outq
  cases hm : mkq s i <;> cases hn : insS s i <;> cases hs : sgx (bt s (i : Int)).toNat <;> cases hb : blx (bt s (i : Int)).toNat <;> simp
theorem rd_kinds (s : ByteArray) (i : Nat) (h : i < s.size) : rd ((List.range s.size).map (kindB s)) (i : Int) = kindB s i := by
  unfold rd
  rw [Int.toNat_natCast, List.getD_eq_getElem?_getD, List.getElem?_map, List.getElem?_range h]
  rfl
theorem begins_eq (s : ByteArray) (hn : s.size ≤ 1048576) (i : Nat) (hi : i < s.size) : quarryref08_begins.f ((List.range s.size).map (kindB s)) (i : Int) = some (decide (kindB s i = 1 ∨ kindB s i = 3 ∨ (kindB s i = 6 ∧ (i = 0 ∨ kindB s (i - 1) ≠ 6)))) := by
  have hl : ((List.range s.size).map (kindB s)).length = s.size := by simp
  unfold quarryref08_begins.f
  rw [if_pos (by omega), hl, if_pos (by omega), rd_kinds s i hi]
  by_cases h1 : kindB s i = 1
  · rw [if_pos h1, decide_eq_true (.inl h1)]
  rw [if_neg h1]
  by_cases h3 : kindB s i = 3
  · rw [if_pos h3, decide_eq_true (.inr (.inl h3))]
  rw [if_neg h3]
  by_cases h6 : kindB s i = 6
  · rw [if_pos h6]
    by_cases h0 : i = 0
    · rw [if_pos (by omega), decide_eq_true (.inr (.inr ⟨h6, .inl h0⟩))]
    · have e : wrap64 ((i : Int) - 1) = ((i - 1 : Nat) : Int) := by unfold wrap64; omega
      rw [if_neg (by omega), e, if_pos (by omega), if_pos (by omega), rd_kinds s (i - 1) (by omega)]
      by_cases b : kindB s (i - 1) = 6
      · simp [b, h1, h3, h0]
      · simp [b, h6]
  · rw [if_neg h6]
    simp [h1, h3, h6]
theorem sameints_loop (l : List Int) (hl : l.length ≤ 140737488355328) : ∀ (d i k : Nat), i + d = l.length → d < k → quarryref00_SameInts.l0 k l l (i : Int) = some true := by
  intro d
  induction d with
  | zero =>
    intro i k hi hk
    obtain ⟨k, rfl⟩ : ∃ m, k = m + 1 := ⟨k - 1, by omega⟩
    unfold quarryref00_SameInts.l0
    rw [if_neg (by omega)]
  | succ d ih =>
    intro i k hi hk
    obtain ⟨k, rfl⟩ : ∃ m, k = m + 1 := ⟨k - 1, by omega⟩
    have e : wrap64 ((i : Int) + 1) = ((i + 1 : Nat) : Int) := by unfold wrap64; omega
    unfold quarryref00_SameInts.l0
    rw [if_pos (by omega), if_pos (by omega), if_pos (by omega), if_pos rfl, e, ih (i + 1) k (by omega) (by omega)]
/-- A list is the same as itself. -/
theorem sameints_refl (l : List Int) (hl : l.length ≤ 140737488355328) (k : Nat) (hk : l.length < k) : quarryref00_SameInts.f k l l = some true := by
  unfold quarryref00_SameInts.f
  rw [if_pos rfl]
  exact sameints_loop l hl l.length 0 k (by omega) hk
theorem begq_kind (s : ByteArray) (i : Nat) : begq s i = decide (kindB s i = 1 ∨ kindB s i = 3 ∨ (kindB s i = 6 ∧ (i = 0 ∨ kindB s (i - 1) ≠ 6))) := by
  unfold begq
  rw [kb_sg, kb_op, kb_wd, kb_wd]
  by_cases h1 : kindB s i = 1
  · simp [h1]
  by_cases h3 : kindB s i = 3
  · simp [h3]
  by_cases h6 : kindB s i = 6
  · by_cases h0 : i = 0
    · subst h0
      simp [h6]
    · by_cases b : kindB s (i - 1) = 6
      · simp [h6, b, h0, show 0 < i by omega]
      · simp [h6, b]
  · simp [h1, h3, h6]
theorem idxL_succ (s : ByteArray) (i : Nat) (hi : i < s.size) : idxL s (i + 1) = if begq s i then idxL s i ++ [(i : Int)] else idxL s i := by
  unfold idxL
  rw [List.range_succ, List.filter_append, List.map_append]
  cases h : begq s i <;> simp [hi, h]
theorem index_loop (s : ByteArray) (hn : s.size ≤ 1048576) : ∀ (d i k : Nat), i + d = s.size → d < k → quarryref08_Index.l0 k ((List.range s.size).map (kindB s)) (idxL s i) (i : Int) = some (idxL s s.size) := by
  have hl : ((List.range s.size).map (kindB s)).length = s.size := by simp
  intro d
  induction d with
  | zero =>
    intro i k hi hk
    obtain ⟨k, rfl⟩ : ∃ m, k = m + 1 := ⟨k - 1, by omega⟩
    simp only [quarryref08_Index.l0]
    rw [hl, if_neg (by omega), show i = s.size by omega]
  | succ d ih =>
    intro i k hi hk
    obtain ⟨k, rfl⟩ : ∃ m, k = m + 1 := ⟨k - 1, by omega⟩
    have e : wrap64 ((i : Int) + 1) = ((i + 1 : Nat) : Int) := by unfold wrap64; omega
    have hlen := idxL_length s i
    simp only [quarryref08_Index.l0]
    rw [hl, if_pos (by omega), begins_eq s hn i (by omega), Option.bind_some, ← begq_kind, e]
    have h := ih (i + 1) k (by omega) (by omega)
    rw [idxL_succ s i (by omega)] at h
    cases hb : begq s i with
    | true =>
      rw [hb, if_pos rfl] at h
      rw [if_pos rfl, if_pos (by omega), h]
    | false =>
      rw [hb, if_neg (by decide)] at h
      rw [if_neg (by decide), h]
theorem refindex_eq (s : ByteArray) (hn : s.size ≤ 1048576) (k : Nat) (hk : 67 * s.size + 67 < k) : quarryref08_Index.f k s = some (idxL s s.size) := by
  unfold quarryref08_Index.f
  rw [bytes_eq s (by omega) k hk, Option.bind_some]
  exact index_loop s hn s.size 0 k (by omega) (by omega)
theorem index_eq (s : ByteArray) (hn : s.size ≤ 1048576) : marks_Index.f s = some (idxL s s.size) := by
  unfold marks_Index.f
  rw [if_pos (by omega)]
def smallT : ByteArray := ⟨#[123, 34, 97, 32, 98, 34, 32, 58, 32, 91, 49, 44, 116, 114, 117, 101, 93, 125]⟩
theorem small_index : idxL smallT smallT.size = [0, 1, 7, 9, 10, 11, 12, 16, 17] := by decide +kernel
theorem MarksIndexes (s : ByteArray) (hn : s.size ≤ 1048576) : ∃ k, quarrylaw08_MarksIndexes.f k s = some true := by
  obtain ⟨k, hk⟩ : ∃ k, k = 67 * s.size + 168 := ⟨_, rfl⟩
  have h18 : smallT.size = 18 := rfl
  have h1 := index_eq smallT (by rw [h18]; omega)
  rw [small_index] at h1
  have hl := idxL_length s s.size
  refine ⟨k, ?_⟩
  unfold quarrylaw08_MarksIndexes.f
  rw [show marks_Index.f (⟨#[123, 34, 97, 32, 98, 34, 32, 58, 32, 91, 49, 44, 116, 114, 117, 101, 93, 125]⟩ : ByteArray) = some [0, 1, 7, 9, 10, 11, 12, 16, 17] from h1, Option.bind_some, sameints_refl _ (by decide) k (by simp; omega), Option.bind_some, if_pos rfl,
    index_eq s hn, Option.bind_some, refindex_eq s hn k (by omega), Option.bind_some, sameints_refl _ (by omega) k (by omega), Option.bind_some]

end Go.Proofs.YtadcgjmhhodnoaaDoor.Pure
