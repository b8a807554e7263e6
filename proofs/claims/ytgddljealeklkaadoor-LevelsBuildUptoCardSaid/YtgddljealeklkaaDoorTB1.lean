/- Parts of a claim (TB), packed by a program (pack.py) out of the texts that it names. -/
import Derived.Laws.AppendOwn
import Derived.Test.YtgddljealeklkaaDoorProg
import Derived.Below
import Derived.Deep.Draws
import Derived.Deep.AppendLies
import Derived.Maps.AppendAt
import Derived.OwnWalk
import Derived.Laws.BytesArg
import Derived.Laws.MakeOwn
import Derived.Laws.OwnMore
import Derived.Deep.OwnRows
import Derived.Tactics
import Derived.Lib.ConvBytes
import Derived.Laws.Slices
import Derived.WalkKit
import Derived.KernelRfl
import Derived.RowKit3
import Derived.Deep.LoopGhost
import Derived.Deep.QuietTactic
import Derived.BigQuiet
import Derived.WideLaws
import Derived.Deep.DeepCutAuto
import Derived.Deep.CutBlock
import Derived.Deep.RegionHeld3
import Derived.Laws.Rows
import Derived.Lib.AppendStr
import Derived.ArgAppend
import Derived.Laws.IdiomCopy
import Derived.OrdersHeld
import Derived.Laws.BitsLemmas
import Derived.RowKit
import Derived.Test.YtgddljealeklkaaDoorTB0
-- Su
section
namespace Go.Proofs.YtgddljealeklkaaDoorQ
open Go Go.RowKit Go.Proofs.YtgddljealeklkaaDoorW.PrintWords
def idxD (s : ByteArray) : Nat → Nat → List Nat
 | 0, _ => []
 | d + 1, i => if begq s i then i :: idxD s d (i + 1) else idxD s d (i + 1)
theorem idxD_succ (s : ByteArray) (d i : Nat) : idxD s (d + 1) i = if begq s i then i :: idxD s d (i + 1) else idxD s d (i + 1) := rfl
theorem idxD_range (s : ByteArray) : ∀ d i, idxD s d i = (List.range' i d).filter (begq s)
 | 0, i => rfl
 | d + 1, i => by
  rw [List.range'_succ, List.filter_cons]
  unfold idxD
  rw [idxD_range s d (i + 1)]
theorem idxD_all (s : ByteArray) : idxL s s.size = (idxD s s.size 0).map fun i => ((i : Nat) : Int) := by
 rw [idxL_all s _ (Nat.le_refl _), idxD_range, List.range_eq_range']
def opensB (c : Int) : Bool := c == 123 || c == 91
def closesB (c : Int) : Bool := c == 125 || c == 93
section
variable {s : ByteArray}
theorem sg_facts {p : Nat} (h : sgq s p = true) : mkq s p = false ∧ insS s p = false ∧ wdq s p = false ∧ opq s p = false ∧ blq s p = false ∧ begq s p = true ∧ sgx (bt s (p : Int)).toNat = true := by
 have h0 := h
 unfold sgq at h
 simp only [Bool.and_eq_true] at h
 have ho := h.2
 unfold outq at ho
 have hm : mkq s p = false := by cases hm : mkq s p <;> simp_all
 have hi : insS s p = false := by cases hi : insS s p <;> simp_all
 refine ⟨hm, hi, ?_, by unfold opq;rw [hm];rfl, ?_, by unfold begq;rw [h0];simp, h.1⟩
 ·unfold wdq;rw [h0];simp
 ·unfold blq;rw [blx_of_sgx h.1];rfl
theorem sgx_bytes {c : Int} (h0 : 0 ≤ c) : sgx c.toNat = (opensB c || (closesB c || c == 58 || c == 44)) := by
 unfold sgx opensB closesB
 rw [Bool.eq_iff_iff]
 simp only [Bool.or_eq_true, beq_iff_eq]
 omega
theorem bt_nn (s : ByteArray) (i : Nat) : 0 ≤ bt s (i : Int) := by
 unfold bt
 split <;> omega
theorem other_bytes {p : Nat} (hs : sgq s p = false) (h : opq s p = true ∨ wdq s p = true) : opensB (bt s (p : Int)) = false ∧ (closesB (bt s (p : Int)) || bt s (p : Int) == 58 || bt s (p : Int) == 44) = false := by
 have hx : sgx (bt s (p : Int)).toNat = false := by
  rcases h with h|h
  ·have hm := (op_facts h).1
   unfold mkq at hm
   simp only [Bool.and_eq_true, decide_eq_true_eq] at hm
   rw [hm.1]
   rfl
  ·have hw := h
   unfold wdq at hw
   simp only [Bool.and_eq_true] at hw
   have ho := hw.1.1
   unfold sgq at hs
   rw [ho, Bool.and_true] at hs
   exact hs
 rw [sgx_bytes (bt_nn s p)] at hx
 simpa [Bool.or_eq_false_iff] using hx
end
end Go.Proofs.YtgddljealeklkaaDoorQ
end
-- Lv
section
namespace Go.Proofs.YtgddljealeklkaaDoorQ
open Go Go.RowKit Go.Proofs.YtgddljealeklkaaDoorW.PrintWords
section
variable {s : ByteArray}
def opS (s : ByteArray) (i : Nat) : Bool := sgq s i && opensB (bt s (i : Int))
def clS (s : ByteArray) (i : Nat) : Bool := sgq s i && closesB (bt s (i : Int))
def dep (s : ByteArray) : Nat → Nat
 | 0 => 0
 | i + 1 => if opS s i then dep s i + 1 else if clS s i then dep s i - 1 else dep s i
theorem dep_succ (s : ByteArray) (i : Nat) : dep s (i + 1) = if opS s i then dep s i + 1 else if clS s i then dep s i - 1 else dep s i := rfl
theorem dep_le (s : ByteArray) : ∀ i, dep s i ≤ i
 | 0 => Nat.le_refl _
 | i + 1 => by
  have := dep_le s i
  rw [dep_succ]
  split
  ·omega
  ·split <;> omega
theorem beg_bytes {p : Nat} (h : begq s p = true) : sgq s p = true ∨ (sgq s p = false ∧ opensB (bt s (p : Int)) = false ∧ (closesB (bt s (p : Int)) || bt s (p : Int) == 58 || bt s (p : Int) == 44) = false) := by
 cases hs : sgq s p with
 | true => exact .inl rfl
 | false =>
  refine .inr ⟨rfl, other_bytes hs ?_⟩
  unfold begq at h
  rw [hs, Bool.false_or] at h
  cases ho : opq s p with
  | true => exact .inl rfl
  | false =>
   rw [ho, Bool.false_or] at h
   simp only [Bool.and_eq_true] at h
   exact .inr h.1
theorem beg_open {p : Nat} (h : begq s p = true) : opS s p = opensB (bt s (p : Int)) := by
 unfold opS
 rcases beg_bytes h with h | ⟨h, h2, _⟩
 ·rw [h, Bool.true_and]
 ·rw [h, h2, Bool.false_and]
theorem beg_close {p : Nat} (h : begq s p = true) : clS s p = closesB (bt s (p : Int)) := by
 unfold clS
 rcases beg_bytes h with h | ⟨h, _, h3⟩
 ·rw [h, Bool.true_and]
 ·rw [Bool.or_eq_false_iff, Bool.or_eq_false_iff] at h3
  rw [h, h3.1.1, Bool.false_and]
theorem sg_beg {p : Nat} (h : sgq s p = true) : begq s p = true := (sg_facts h).2.2.2.2.2.1
theorem not_beg {p : Nat} (h : begq s p = false) : sgq s p = false := by
 cases hs : sgq s p with
 | false => rfl
 | true => rw [sg_beg hs] at h;cases h
theorem dep_skip {a b : Nat} (hab : a ≤ b) (h : ∀ i, a ≤ i → i < b → begq s i = false) : dep s b = dep s a := by
 obtain ⟨d, rfl⟩ : ∃ d, b = a + d := ⟨b - a, by omega⟩
 clear hab
 induction d with
 | zero => rfl
 | succ d ih =>
  have hs := not_beg (h (a + d) (by omega) (by omega))
  rw [← Nat.add_assoc, dep_succ]
  unfold opS clS
  rw [hs, Bool.false_and, Bool.false_and, if_neg (by decide), if_neg (by decide)]
  exact ih fun i h1 h2 => h i h1 (by omega)
theorem idx_gap (s : ByteArray) : ∀ (d i0 : Nat),
  (i0 ≤ (idxD s d i0).getD 0 (i0 + d) ∧ (idxD s d i0).getD 0 (i0 + d) ≤ i0 + d ∧ ∀ j, i0 ≤ j → j < (idxD s d i0).getD 0 (i0 + d) → begq s j = false) ∧
  ∀ i p, (idxD s d i0)[i]? = some p → i0 ≤ p ∧ p < i0 + d ∧ begq s p = true ∧ p < (idxD s d i0).getD (i + 1) (i0 + d) ∧ (idxD s d i0).getD (i + 1) (i0 + d) ≤ i0 + d ∧ ∀ j, p < j → j < (idxD s d i0).getD (i + 1) (i0 + d) → begq s j = false
 | 0, i0 => ⟨⟨Nat.le_refl _, Nat.le_refl _, fun j h1 h2 => by simp [idxD] at h2;omega⟩, fun i p h => by simp [idxD] at h⟩
 | d + 1, i0 => by
  obtain ⟨⟨h1, h2, h3⟩, h4⟩ := idx_gap s d (i0 + 1)
  rw [show i0 + 1 + d = i0 + (d + 1) by omega] at h1 h2 h3 h4
  rw [idxD_succ]
  by_cases hb : begq s i0 = true
  ·rw [if_pos hb]
   refine ⟨⟨by simp, by simp, fun j a b => by simp at b;omega⟩, fun i p hp => ?_⟩
   cases i with
   | zero =>
    have e : i0 = p := by simpa using hp
    subst e
    rw [List.getD_cons_succ]
    exact ⟨Nat.le_refl _, by omega, hb, by omega, h2, fun j a b => h3 j (by omega) b⟩
   | succ i =>
    rw [List.getElem?_cons_succ] at hp
    obtain ⟨a1, a2, a3, a4, a5, a6⟩ := h4 i p hp
    rw [List.getD_cons_succ]
    exact ⟨by omega, a2, a3, a4, a5, a6⟩
  ·rw [if_neg hb]
   have hb : begq s i0 = false := by simpa using hb
   refine ⟨⟨by omega, h2, fun j a b => ?_⟩, fun i p hp => ?_⟩
   ·by_cases e : j = i0
    ·subst e;exact hb
    ·exact h3 j (by omega) b
   ·obtain ⟨a1, a2, a3, a4, a5, a6⟩ := h4 i p hp
    exact ⟨by omega, a2, a3, a4, a5, a6⟩
def placesL (s : ByteArray) : List Nat := idxD s s.size 0
def nextP (s : ByteArray) (i : Nat) : Nat := (placesL s).getD i s.size
theorem next_zero (s : ByteArray) : nextP s 0 ≤ s.size ∧ ∀ j, j < nextP s 0 → begq s j = false := by
 obtain ⟨⟨h1, h2, h3⟩, _⟩ := idx_gap s s.size 0
 rw [Nat.zero_add] at h2 h3
 exact ⟨h2, fun j h => h3 j (Nat.zero_le _) h⟩
theorem place_at {i p : Nat} (h : (placesL s)[i]? = some p) : p < s.size ∧ begq s p = true ∧ p = nextP s i ∧ p < nextP s (i + 1) ∧ nextP s (i + 1) ≤ s.size ∧ ∀ j, p < j → j < nextP s (i + 1) → begq s j = false := by
 obtain ⟨_, h4⟩ := idx_gap s s.size 0
 obtain ⟨a1, a2, a3, a4, a5, a6⟩ := h4 i p h
 rw [Nat.zero_add] at a2 a4 a5 a6
 refine ⟨a2, a3, ?_, a4, a5, a6⟩
 unfold nextP
 rw [List.getD_eq_getElem?_getD, h]
 rfl
theorem next_end {i : Nat} (h : (placesL s).length ≤ i) : nextP s i = s.size := by
 unfold nextP
 rw [List.getD_eq_getElem?_getD, List.getElem?_eq_none h]
 rfl
theorem dep_zero (s : ByteArray) : dep s (nextP s 0) = 0 := by
 rw [dep_skip (a := 0) (b := nextP s 0) (Nat.zero_le _) fun j _ h => (next_zero s).2 j h]
 rfl
theorem dep_next {i p : Nat} (h : (placesL s)[i]? = some p) : dep s (nextP s (i + 1)) = if opensB (bt s (p : Int)) then dep s p + 1 else if closesB (bt s (p : Int)) then dep s p - 1 else dep s p := by
 obtain ⟨a1, a2, a3, a4, a5, a6⟩ := place_at h
 rw [dep_skip (a := p + 1) (by omega) (fun j h1 h2 => a6 j (by omega) h2), dep_succ, beg_open a2, beg_close a2]
theorem places_mem {j : Nat} (hj : j < s.size) (h : begq s j = true) : ∃ i : Nat, (placesL s)[i]? = some j := by
 apply List.getElem?_of_mem
 unfold placesL
 rw [idxD_range]
 exact List.mem_filter.2 ⟨List.mem_range'_1.2 ⟨Nat.zero_le _, by omega⟩, h⟩
theorem next_mono (s : ByteArray) : ∀ (d i : Nat), nextP s i ≤ nextP s (i + d)
 | 0, i => Nat.le_refl _
 | d + 1, i => by
  have h := next_mono s d i
  have h2 : nextP s (i + d) ≤ nextP s (i + d + 1) := by
   by_cases c : i + d < (placesL s).length
   ·obtain ⟨_, _, a3, a4, _, _⟩ := place_at (List.getElem?_eq_getElem c)
    omega
   ·rw [next_end (by omega), next_end (by omega)]
    exact Nat.le_refl _
  rw [← Nat.add_assoc]
  omega
theorem places_le (s : ByteArray) : (placesL s).length ≤ s.size := by
 have h2 := idxL_length s s.size
 rw [idxD_all, List.length_map] at h2
 exact h2
theorem places_idx (s : ByteArray) : idxL s s.size = (placesL s).map fun i => ((i : Nat) : Int) := idxD_all s
def depAt (s : ByteArray) (a : Int) : Nat := dep s (min a.toNat s.size)
theorem depAt_stop {i p : Nat} {a : Int} (h : (placesL s)[i]? = some p) (hp : ¬ ((p : Int) < a)) (hb : ∀ (j q : Nat), j < i → (placesL s)[j]? = some q → (q : Int) < a) : depAt s a = dep s p := by
 obtain ⟨a1, a2, a3, a4, a5, a6⟩ := place_at h
 unfold depAt
 refine (dep_skip (a := min a.toNat s.size) (b := p) (by omega) fun j h1 h2 => ?_).symm
 cases hj : begq s j with
 | false => rfl
 | true =>
  obtain ⟨k, hk⟩ := places_mem (by omega) hj
  have hki : k < i := by
   apply Classical.byContradiction
   intro c
   obtain ⟨d, rfl⟩ : ∃ d, k = i + d := ⟨k - i, by omega⟩
   have := next_mono s d i
   have e := (place_at hk).2.2.1
   omega
  have := hb k j hki hk
  omega
theorem depAt_all {a : Int} (hb : ∀ (j q : Nat), (placesL s)[j]? = some q → (q : Int) < a) : depAt s a = dep s s.size := by
 unfold depAt
 refine (dep_skip (a := min a.toNat s.size) (b := s.size) (by omega) fun j h1 h2 => ?_).symm
 cases hj : begq s j with
 | false => rfl
 | true =>
  obtain ⟨k, hk⟩ := places_mem (by omega) hj
  have := hb k j hk
  omega
def closeR (s : ByteArray) (a : Int) : List Nat → Int → Int
 | [], _ => -1
 | p :: L, want => if (p : Int) = a then closeR s a L ((dep s p : Nat) + 1) else
   if a < (p : Int) ∧ ((dep s p : Nat) : Int) = want ∧ closesB (bt s (p : Int)) = true then (p : Int) else closeR s a L want
end
end Go.Proofs.YtgddljealeklkaaDoorQ
end
-- Mn
section
namespace Go.Proofs.YtgddljealeklkaaDoorM
open Go Go.RowKit Go.Lib Go.Proofs.YtgddljealeklkaaDoorW.PrintWords Go.Proofs.YtgddljealeklkaaDoorW.PrintLast Go.Proofs.YtgddljealeklkaaDoorW.PrintMore
def Appended (W W' : World) (e : TypeId) (v v' : Value) (n m : Nat) (ys : List Value) : Prop :=
 (∃ g cap, v = .slice (some ⟨g, 0, none⟩) n cap ∧ v' = .slice (some ⟨g, 0, none⟩) m cap ∧ W'.ownsRow 0 e 1 v' m ys ∧ W.grownBy W' (some g)) ∨
 (∃ cap, v' = .slice (some ⟨W.heap.size, 0, none⟩) m cap ∧ W'.ownsRow 0 e 1 v' m ys ∧ W.grownBy W' none)
theorem run_append_two {P : Program} (w : World) (base : Nat) (t ty e : TypeId) (i : TypeInfo) (z : Value) (bytes : Nat) (ht : P.underlying t = some (.slice e)) (hi : P.info? e = some i) (hz : i.zero = some z)
  (hsize : i.size = 1) (hby : i.bytes = bytes) (hzs : z.cells.size = 1) (v : Value) (n : Nat) (xs : List Value) (hown : w.ownsRow base e 1 v n xs)
  (a : Addr) (m c : Nat) (news : List Value) (hl : news.length = m) (hm : 0 < m) (hnews : ∀ j u, news[j]? = some u → w.cell? (a.add j) = some u) (h1 : ∀ u ∈ news, u.oneCell' = true)
  (h63 : n + m ≤ maxLen) (hbytes : (n + m) * bytes ≤ 140737488355328) :
  ∃ v' w', (Builtin.append_ #[t, t] ty #[v, .slice (some a) m c]).run P w = .ok v' w' ∧ Appended w w' e v v' n (n + m) (xs ++ news) := by
 have hsmall : n + m ≤ 9223372036854775807 := by simp only [maxLen] at h63;omega
 have hx : xs.length = n := by rw [hown.1, Nat.mul_one]
 have hl1 : news.length = m * i.size := by rw [hsize, Nat.mul_one, hl]
 have hxi : xs.length = n * i.size := by rw [hsize, Nat.mul_one, hx]
 have hb0 := hbytes
 subst hby
 have grown : ∀ (old : Nat),
   (w.drew.alloc (.cells (xs.toArray ++ news.toArray ++ Builtin.zeroCells z.cells (grownCap w (n + m) old e - (n + m))) e)).ownsRow 0 e 1
    (.slice (some ⟨w.heap.size, 0, none⟩) (n + m) (grownCap w (n + m) old e)) (n + m) (xs ++ news) ∧
   w.grownBy (w.drew.alloc (.cells (xs.toArray ++ news.toArray ++ Builtin.zeroCells z.cells (grownCap w (n + m) old e - (n + m))) e)) none := by
  intro old
  have hge := grownCap_ge w (n + m) old e
  have hcm : grownCap w (n + m) old e ≤ maxLen := grownCap_le_maxLen w (n + m) old e h63
  refine ⟨⟨by rw [List.length_append, hx, hl, Nat.mul_one], .inr ⟨w.heap.size, _, _, rfl, Nat.zero_le _, heap_alloc_new w.drew _, hge, hcm, ?_, ?_⟩⟩, ⟨rfl, rfl, rfl, by simp, fun k hk hne => (World.grownBy_alloc w.drew _ none).block k hk hne⟩⟩
  ·simp only [Array.size_append, List.size_toArray, size_zeroCells, hzs, hx, hl]
   omega
  ·simp only [Array.toList_append, List.append_assoc]
   rw [← List.append_assoc, Nat.mul_one, show n + m = (xs ++ news).length by rw [List.length_append, hx, hl]]
   exact List.take_left
 rcases hown.2 with ⟨rfl, rfl⟩ | ⟨g, cap, cur, rfl, hbg, hg, hnc, hcm, hcs, htake⟩
 ·obtain rfl : xs = [] := List.eq_nil_of_length_eq_zero hx
  have hr := run_append_nil (P := P) w t ty e i z ht hi hz a m c news hl1 hnews hm (by omega) (by have hb := hb0;simp only [Nat.zero_add] at hb;omega)
  have hgr := grown 0
  simp only [Nat.zero_add, List.nil_append, Array.empty_append] at hgr ⊢
  exact ⟨_, _, hr, .inr ⟨_, rfl, hgr.1, hgr.2⟩⟩
 ·rw [Nat.mul_one] at hcs htake
  by_cases hroom : n + m ≤ cap
  ·have hfit : n * i.size + news.length ≤ cur.size := by rw [hsize, Nat.mul_one, hl, hcs];exact hroom
   have hr := run_append_room (P := P) w t ty e i ht hi g n cap cur hg a m c news hl1 hnews h1 hroom hfit
   rw [hsize, Nat.mul_one] at hr
   refine ⟨_, _, hr, .inl ⟨g, cap, rfl, rfl, ⟨by rw [List.length_append, hx, hl, Nat.mul_one], .inr ⟨g, cap, _, rfl, Nat.zero_le _, setRow_heap w g cur _ e _ hg, hroom, hcm, ?_, ?_⟩⟩, ⟨rfl, rfl, rfl, by simp, fun k _ hk => setRow_other w g k _ (fun e => hk (by rw [e]))⟩⟩⟩
   ·simp only [List.size_toArray, List.length_append, List.length_take, List.length_drop, Array.length_toList]
    omega
   ·rw [htake, Nat.mul_one, show n + m = (xs ++ news).length by rw [List.length_append, hx, hl]]
    exact List.take_left
  ·have holds : ∀ j u, xs[j]? = some u → w.cell? ((⟨g, 0, none⟩ : Addr).add j) = some u := hown.cells (g := g) rfl
   have hr := run_append_grow (P := P) w t ty e i z ht hi hz ⟨g, 0, none⟩ n cap xs hxi holds a m c news hl1 hnews (by omega) (by omega) (growslice_fits (by omega) hbytes)
   have hgr := grown cap
   exact ⟨_, _, hr, .inr ⟨_, rfl, hgr.1, hgr.2⟩⟩
section
variable {P : Program} {ops : Array Oper} {rest : List Oper} {o : Oper} {a : Act} {Q : Exit → Act → World → Prop} {W : World}
end
section
variable {ops : Array Oper} {P : Program} {o : Oper} {a : Act} {K : Act → World → Prop} {Q : Exit → Act → World → Prop} {W : World}
theorem rg_put1 (hw : Region.wanted o (yielded ops a.tmps) = true) {g i : Nat} {cs : Array Value} {t : TypeId} (B : Blk W g cs t) (ty : TypeId) (x y : Operand) (ho : o.op = .store ty x y) (hx : a.eval x = .pointer (some ⟨g, i, none⟩)) (v : Value) (hy : a.eval y = v)
  (hi : i < cs.size) (hs : (P.info? ty).map (·.size) = some 1) (hv : v.oneCell' = true)
  (h : ∀ w1, Blk w1 g (cs.setIfInBounds i v) t → Aside0 (W.grownBy w1 (some g)) → K (a.put o.dst undef) w1) :
  if Region.wanted o (yielded ops a.tmps) = true then Oper.wp P o a W K Q else K (a.put o.dst undef) W := by
 rw [if_pos hw]
 have h1 := run_store1 (P := P) B hi ty v hs hv
 have hr : (execOp a.eval o).run P W = .ok .skip (W.setRow g (cs.setIfInBounds i v)) := by
  unfold execOp
  simp [ho, hx, hy, Instr.storeAt, Instr.sureAddr, h1, Result.andThen]
 unfold Oper.wp
 rw [hr]
 exact h _ (B.row _) ⟨⟨rfl, rfl, rfl, Nat.le_of_eq (setRow_size W g _).symm, fun k _ hk => setRow_other W g k _ fun e => hk (by rw [e])⟩⟩
end
theorem lit_news {W : World} {g t : Nat} {u : Value} (B : Blk W g #[u] t) : ∀ j u', [u][j]? = some u' → W.cell? ((⟨g, 0, none⟩ : Addr).add j) = some u' := by
 intro j u' hj
 cases j with
 | zero =>
  simp at hj
  subst hj
  exact B.cell (i := 0) rfl
 | succ j => simp at hj
theorem lit_one {u : Value} (h : u.oneCell' = true) : ∀ x ∈ [u], x.oneCell' = true := fun x hx => by rw [List.mem_singleton.1 hx];exact h
def RowF (W : World) (e : TypeId) (v : Value) (n : Nat) (f : Nat → Value) : Prop := W.ownsRow 0 e 1 v n ((List.range n).map f)
section
variable {W W' : World} {e : TypeId} {v : Value} {n : Nat} {f f' : Nat → Value}
end
structure ApS (e : TypeId) (N : Nat) (v gv : Nat → Value) (n m : Nat → Nat) (c d : Nat → Nat → Value) (W : World) : Prop where mk ::
 ls : ∀ i, i < N → RowF W e (v i) (n i) (c i)
 gs : ∀ i, i < N → RowF W e (gv i) (m i) (d i)
 dis : ∀ i j b, i < N → j < N → i ≠ j → ((v i).ownBlock = some b ∨ (gv i).ownBlock = some b) → ¬ ((v j).ownBlock = some b ∨ (gv j).ownBlock = some b)
structure Tv (N : Nat) (v : Nat → Value) (w W : World) : Prop where mk ::
 os : W.os = w.os
 tape : W.tape = w.tape
 output : W.output = w.output
 size : w.heap.size ≤ W.heap.size
 block : ∀ k, k < w.heap.size → (∀ i, i < N → (v i).ownBlock ≠ some k) → W.heap[k]? = w.heap[k]?
structure ApW (e se : TypeId) (N : Nat) (v : Nat → Value) (n : Nat → Nat) (w : World) (gl : Nat) (curL : Array Value) (gv : Nat → Value) (m : Nat → Nat) (c d : Nat → Nat → Value) (W : World) : Prop where mk ::
 ap : ApS e N v gv n m c d W
 fr : ∀ i b, i < N → (gv i).ownBlock = some b → (v i).ownBlock = some b ∨ w.heap.size ≤ b
 vl : ∀ i b, i < N → (v i).ownBlock = some b → b < w.heap.size ∧ b ≠ gl
 lo : Blk W gl curL se
 gl_ : gl < w.heap.size
 tv : Tv N v w W
section
variable {e se : TypeId} {N : Nat} {v gv : Nat → Value} {n m : Nat → Nat} {w W W' : World} {gl : Nat} {curL : Array Value} {c d : Nat → Nat → Value}
end
end Go.Proofs.YtgddljealeklkaaDoorM
end
-- Mt
section
namespace Go.Proofs.YtgddljealeklkaaDoorM
open Go Go.RowKit Go.Lib Go.Proofs.YtgddljealeklkaaDoorW.PrintWords Go.Proofs.YtgddljealeklkaaDoorW.PrintLast Go.Proofs.YtgddljealeklkaaDoorW.PrintMore
section
variable {ops : Array Oper} {P : Program} {o : Oper} {a : Act} {K : Act → World → Prop} {Q : Exit → Act → World → Prop} {W : World}
end
theorem row_turned {X : List Nat} {W W' : World} {base e size n : Nat} {v : Value} {xs : List Value} (h : W.ownsRow base e size v n xs) (ht : Turned X W W') (hv : ∀ b, v.ownBlock = some b → b ∉ X) : W'.ownsRow base e size v n xs :=
 own_move h fun k hk => ht.block k (World.ownsRow.lt h k hk).2 (hv k hk)
structure GrI (e se : TypeId) (sG sF : List ByteArray) (vF : Value) (wA : World) (gG gF m : Nat) (X : List Nat) (W : World) : Prop where mk ::
 g : ∃ v, Blk W gG #[v] se ∧ W.ownsRow 0 e 1 v sG.length (sG.map Value.string) ∧ ∀ b, v.ownBlock = some b → m ≤ b ∧ b ∉ X
 f : Blk W gF #[vF] se ∧ W.ownsRow 0 e 1 vF sF.length (sF.map Value.string) ∧ ∀ b, vF.ownBlock = some b → b < m
 hb : BelowH wA W
 sz : m ≤ W.heap.size
theorem blk_same {W : World} {g t : Nat} {a b : Value} (h : Blk W g #[a] t) (k : Blk W g #[b] t) : a = b := by
 have := h.out
 rw [k.out] at this
 simp at this
 exact this.symm
section
variable {e se : TypeId} {sG sF : List ByteArray} {vF : Value} {wA : World} {gG gF m : Nat} {X : List Nat} {W W' : World}
end
end Go.Proofs.YtgddljealeklkaaDoorM
end
-- Lw
section
namespace Go.Proofs.YtgddljealeklkaaDoorM
open Go Go.RowKit Go.Lib Go.Proofs.YtgddljealeklkaaDoorW.PrintWords Go.Proofs.YtgddljealeklkaaDoorW.PrintLast Go.Proofs.YtgddljealeklkaaDoorW.PrintMore
section
variable {F : Fence} {n : Nat} {ops : Array Oper} {P : Program} {o : Oper} {rest : List Oper} {a : Act} {Q : Exit → Act → World → Prop} {W : World}
theorem ev_append2In (hgd : o.guard = none) (s x : Operand) (t e : TypeId) (z : Value) (bytes : Nat) (hop : o.op = .call { callee := .builtin .append, args := #[s, x], argTypes := #[t, t] })
  (h1 : P.underlying t = some (.slice e)) (hinfo : (P.info? e).map (fun i => (i.zero, i.size, i.bytes)) = some (some z, 1, bytes)) (hz : z.cells.size = 1) (hb0 : 0 < bytes)
  (v : Value) (k : Nat) (xs : List Value) {base : Nat} (hrow : W.ownsRow base e 1 v k xs) (hs : a.eval s = v) (ad : Addr) (m c : Nat) (news : List Value) (hx : a.eval x = .slice (some ad) m c) (hl : news.length = m) (hm : 0 < m)
  (hnews : ∀ j u, news[j]? = some u → W.cell? (ad.add j) = some u) (h1c : ∀ u ∈ news, u.oneCell' = true) (b : (k + m) * bytes ≤ 140737488355328)
  (h : ∀ v1 w1, Aside0 (Appended W w1 e v v1 k (k + m) (xs ++ news)) → wpListIn F n P ops Q rest (a.put o.dst v1) w1) : wpListIn F n P ops Q (o :: rest) a W := by
 obtain ⟨i, h2, h3, h4, h5⟩ := info_parts hinfo
 have hk : k + m ≤ (k + m) * bytes := Nat.le_mul_of_pos_right _ hb0
 refine wpListIn_plain hgd fun K hK' => ?_
 obtain ⟨v', w', hrun, hA⟩ := run_append_two (P := P) W base t o.type e i z bytes h1 h2 h3 h4 h5 hz v k xs hrow ad m c news hl hm hnews h1c (by unfold maxLen;omega) b
 unfold Oper.wpIn
 refine ⟨?_, ?_⟩
 ·simp [Oper.about, hop, resolve, Target.leads, Sem.run_pure]
 ·rw [Oper.semAt_plain F _ _ (by rw [hop];intro c hc';cases hc')]
  simp [execOp, hop, resolve, invoke, builtin, hs, hx, hrun, Result.andThen]
  exact hK' _ _ (h v' w' ⟨hA⟩)
theorem ev_put1In {g i : Nat} {cs : Array Value} {t : TypeId} (B : Blk W g cs t) (hgd : o.guard = none) (ty : TypeId) (x y : Operand) (ho : o.op = .store ty x y) (hx : a.eval x = .pointer (some ⟨g, i, none⟩)) (v : Value) (hy : a.eval y = v)
  (hi : i < cs.size) (hs : (P.info? ty).map (·.size) = some 1) (hv : v.oneCell' = true)
  (h : ∀ w1, Blk w1 g (cs.setIfInBounds i v) t → Aside0 (W.grownBy w1 (some g)) → wpListIn F n P ops Q rest (a.put o.dst undef) w1) : wpListIn F n P ops Q (o :: rest) a W := by
 refine event_skipIn (by simp [Oper.plainOp, ho]) hgd (w1 := W.setRow g (cs.setIfInBounds i v)) ?_ (h _ (B.row _) ⟨⟨rfl, rfl, rfl, Nat.le_of_eq (setRow_size W g _).symm, fun k _ hk => setRow_other W g k _ fun e => hk (by rw [e])⟩⟩)
 have := run_store1 (P := P) B hi ty v hs hv
 unfold execOp
 simp [ho, hx, hy, Instr.storeAt, Instr.sureAddr, this, Result.andThen]
end
structure Gr1 (e se : TypeId) (sG : List Value) (wA : World) (gG m : Nat) (X : List Nat) (W : World) : Prop where mk ::
 g : ∃ v, Blk W gG #[v] se ∧ W.ownsRow wA.heap.size e 1 v sG.length sG ∧ ∀ b, v.ownBlock = some b → m ≤ b ∧ b ∉ X
 hb : BelowH wA W
 sz : m ≤ W.heap.size
section
variable {e se : TypeId} {sG : List Value} {wA : World} {gG m : Nat} {X : List Nat} {W W' : World}
theorem Gr1.kept (h : Gr1 e se sG wA gG m X W) {B : Nat} (hB : wA.heap.size ≤ B) {row : Option Nat} (hg : W.grownBy W' row) (hr : ∀ r, row = some r → B ≤ r ∧ ∃ o : Obj, W.heap[r]? = some o ∧ o.isCells = false) : Gr1 e se sG wA gG m X W' := by
 have hr' : ∀ r, row = some r → ∃ o : Obj, W.heap[r]? = some o ∧ o.isCells = false := fun r e => (hr r e).2
 obtain ⟨v, a1, a2, a3⟩ := h.g
 exact ⟨⟨v, a1.kept hg hr', row_kept a2 hg hr', a3⟩, h.hb.kept hg hB (fun r e => (hr r e).1), zz2 h.sz hg.size⟩
theorem Gr1.below (h : Gr1 e se sG wA gG m X W) (hb : Below W.heap.size W W') : Gr1 e se sG wA gG m X W' := by
 obtain ⟨v, a1, a2, a3⟩ := h.g
 exact ⟨⟨v, a1.below hb, row_below a2 hb, a3⟩, h.hb.step hb, zz2 h.sz hb.size⟩
theorem Gr1.turned (h : Gr1 e se sG wA gG m X W) (hX : ∀ k ∈ X, m ≤ k) (ht : Turned X W W') (hG : gG < m) (hA : wA.heap.size ≤ m) : Gr1 e se sG wA gG m X W' := by
 obtain ⟨v, a1, a2, a3⟩ := h.g
 exact ⟨⟨v, a1.turned ht (not_mem_above hX hG), row_turned a2 ht (fun b hb => (a3 b hb).2), a3⟩, ⟨ht.below (fun k hk => zz2 hA (hX k hk)) h.hb.le h.hb.out⟩, zz2 h.sz ht.size⟩
theorem Gr1.more (h : Gr1 e se sG wA gG m X W) {k : Nat} (hk : W.heap.size ≤ k) : Gr1 e se sG wA gG m (k :: X) W := by
 obtain ⟨v, a1, a2, a3⟩ := h.g
 refine ⟨⟨v, a1, a2, fun b hb => ⟨(a3 b hb).1, fun c => ?_⟩⟩, h.hb, h.sz⟩
 rcases List.mem_cons.1 c with e1|c
 ·have := (World.ownsRow.lt a2 b hb).2
  omega
 ·exact (a3 b hb).2 c
theorem Gr1.grow (h : Gr1 e se sG wA gG m X W) (hG : gG < m) (hGA : wA.heap.size ≤ gG) (hX : ∀ k ∈ X, k < W.heap.size) (hXm : ∀ k ∈ X, m ≤ k) {u : Value} : ∃ v, Blk W gG #[v] se ∧ W.ownsRow wA.heap.size e 1 v sG.length sG ∧
  ∀ v' W1 W2, Appended W W1 e v v' sG.length (sG.length + 1) (sG ++ [u]) → (Blk W1 gG #[v] se ∧ v'.oneCell' = true) ∧ (Blk W2 gG #[v'] se → W1.grownBy W2 (some gG) →
   Gr1 e se (sG ++ [u]) wA gG m X W2 ∧ (∀ k ∈ X, W2.heap[k]? = W.heap[k]?) ∧ (∀ k, k < m → k ≠ gG → W2.heap[k]? = W.heap[k]?) ∧ W.heap.size ≤ W2.heap.size ∧ KeepsOthers W W2) := by
 obtain ⟨v, a1, a2, a3⟩ := h.g
 refine ⟨v, a1, a2, fun v' W1 W2 hAp => ?_⟩
 have hz := h.sz
 obtain ⟨row, hg, hrow, hr1, hr2, ho⟩ : ∃ row : Option Nat, W.grownBy W1 row ∧ W1.ownsRow 0 e 1 v' (sG.length + 1) (sG ++ [u]) ∧ (∀ b, row = some b → m ≤ b ∧ b ∉ X ∧ v.ownBlock = some b) ∧ (∀ b, v'.ownBlock = some b → m ≤ b ∧ b ∉ X) ∧ v'.oneCell' = true := by
  rcases hAp with ⟨g, cap, rfl, rfl, q1, q2⟩ | ⟨cap, rfl, q1, q2⟩
  ·exact ⟨some g, q2, q1, fun b hb => (by cases hb;exact ⟨(a3 g rfl).1, (a3 g rfl).2, rfl⟩), fun b hb => (by cases hb;exact a3 g rfl), rfl⟩
  ·exact ⟨none, q2, q1, fun b hb => (by cases hb), fun b hb => (by cases hb;exact ⟨hz, fun c => Nat.lt_irrefl _ (hX _ c)⟩), rfl⟩
 have hG1 : Blk W1 gG #[v] se := ⟨(hg.block gG a1.lt (fun e1 => by have := (hr1 gG e1.symm).1;omega)).trans a1.out⟩
 refine ⟨⟨hG1, ho⟩, fun B2 hg2 => ?_⟩
 have both : ∀ k, k < W.heap.size → some k ≠ row → k ≠ gG → W2.heap[k]? = W.heap[k]? := fun k hk h1 h2 => (hg2.block k (Nat.lt_of_lt_of_le hk hg.size) (fun e1 => h2 (by injection e1))).trans (hg.block k hk h1)
 have hbl : BelowH wA W2 := ⟨⟨hg2.os.trans (hg.os.trans h.hb.out.os), hg2.tape.trans (hg.tape.trans h.hb.out.tape), hg2.output.trans (hg.output.trans h.hb.out.output), zz2 h.hb.le (zz2 hg.size hg2.size), fun k hk => (both k (Nat.lt_of_lt_of_le hk h.hb.le) (fun e1 => by have := (hr1 k e1.symm).1;omega) (by omega)).trans (h.hb.out.block k hk)⟩⟩
 refine ⟨⟨⟨v', B2, ?_, hr2⟩, hbl, zz2 hz (zz2 hg.size hg2.size)⟩, fun k hk => both k (hX k hk) (fun e1 => (hr1 k e1.symm).2.1 hk) (by have := hXm k hk;omega), fun k hk h2 => both k (by omega) (fun e1 => by have := (hr1 k e1.symm).1;omega) h2, zz2 hg.size hg2.size, ?_⟩
 ·rw [List.length_append, List.length_singleton]
  have h3 := own_move hrow (fun k hk => hg2.block k (World.ownsRow.lt hrow k hk).2 fun e1 => by
   injection e1 with e1
   have := (hr2 k hk).1
   omega)
  exact ⟨h3.1, h3.2.imp id fun ⟨g, c, cu, r⟩ => ⟨g, c, cu, r.1, by have := (hr2 g (by rw [r.1];rfl)).1;omega, r.2.2⟩⟩
 ·refine KeepsOthers.trans ⟨hg.size, fun k o hk ho => ?_⟩ ⟨hg2.size, fun k o hk ho => ?_⟩
  ·refine (hg.block k (Array.getElem?_eq_some_iff.1 hk).1 (fun e1 => ?_)).trans hk
   obtain ⟨cs, hc⟩ := own_typed a2 k (hr1 k e1.symm).2.2
   rw [hc] at hk
   cases hk
   cases ho
  ·refine (hg2.block k (Array.getElem?_eq_some_iff.1 hk).1 (fun e1 => ?_)).trans hk
   injection e1 with e1
   subst e1
   rw [hG1.out] at hk
   cases hk
   cases ho
end
end Go.Proofs.YtgddljealeklkaaDoorM
end
-- Lb
section
namespace Go.Proofs.YtgddljealeklkaaDoorQ
open Go Go.RowKit Go.Proofs.YtgddljealeklkaaDoorW.PrintWords
theorem shl_bit : ∀ m : Fin 64, shl .u64 1 ((m.val : Nat) : Int) = iv (1#64 <<< m.val) := by decide
theorem one_shl (m i : Nat) (hm : m < 64) (hi : i < 64) : (1#64 <<< m).getLsbD i = decide (i = m) := by
 have h : ∀ a b : Fin 64, (1#64 <<< a.val).getLsbD b.val = decide (b.val = a.val) := by decide
 exact h ⟨m, hm⟩ ⟨i, hi⟩
theorem words_setbit (n : Nat) (Q : Nat → Bool) (p : Nat) (hp : p < n) :
  (wordsOf n Q).set (p / 64) (bits .or .u64 ((wordsOf n Q).getD (p / 64) 0) (shl .u64 1 ((p % 64 : Nat) : Int))) = wordsOf n fun j => Q j || decide (j = p) := by
 have hk : p / 64 < nwords n := by unfold nwords;omega
 have hm : p % 64 < 64 := Nat.mod_lt _ (by decide)
 rw [wordsOf_get n Q _ hk, shl_bit ⟨p % 64, hm⟩, bits_or]
 apply List.ext_getElem
 ·rw [List.length_set, wordsOf_length, wordsOf_length]
 ·intro k h1 h2
  have hkk : k < nwords n := by rw [wordsOf_length] at h2;exact h2
  have e2 : (wordsOf n fun j => Q j || decide (j = p))[k]'h2 = iv (wordAt n (fun j => Q j || decide (j = p)) k) := by simp [wordsOf]
  rw [e2, List.getElem_set]
  by_cases e : p / 64 = k
  ·subst e
   rw [if_pos rfl]
   refine congrArg iv (BitVec.eq_of_getLsbD_eq fun i hi => ?_)
   rw [BitVec.getLsbD_or, one_shl _ _ hm hi]
   unfold wordAt
   rw [word_bit, word_bit, zz1 hi, Bool.true_and, Bool.true_and]
   dsimp only
   by_cases c : i = p % 64
   ·have e3 : 64 * (p / 64) + i = p := by omega
    rw [zz1 c, e3, zz1 hp, zz1 (rfl : p = p)]
    simp
   ·rw [decide_eq_false c, decide_eq_false (show ¬ 64 * (p / 64) + i = p by omega)]
    simp
  ·rw [if_neg e]
   have e1 : (wordsOf n Q)[k]'(by rw [wordsOf_length];exact hkk) = iv (wordAt n Q k) := by simp [wordsOf]
   rw [e1]
   refine congrArg iv (BitVec.eq_of_getLsbD_eq fun i hi => ?_)
   unfold wordAt
   rw [word_bit, word_bit, zz1 hi, Bool.true_and, Bool.true_and]
   dsimp only
   rw [decide_eq_false (show ¬ 64 * k + i = p by omega), Bool.or_false]
def colq (s : ByteArray) (b : Int) (k p : Nat) : Bool := sgq s p && decide (bt s (p : Int) = b) && decide (dep s p = k)
def colW (s : ByteArray) (b : Int) (lim k : Nat) : List Int := wordsOf s.size fun p => colq s b (k + 1) p && decide (p < lim)
theorem colW_length (s : ByteArray) (b : Int) (lim k : Nat) : (colW s b lim k).length = nwords s.size := wordsOf_length _ _
theorem colW_zero (s : ByteArray) (b : Int) (k : Nat) : colW s b (nextP s 0) k = List.replicate (nwords s.size) 0 := by
 have h : ∀ p, (colq s b (k + 1) p && decide (p < nextP s 0)) = false := fun p => by
  by_cases c : p < nextP s 0
  ·have := not_beg ((next_zero s).2 p c)
   unfold colq
   rw [this]
   rfl
  ·rw [decide_eq_false c, Bool.and_false]
 unfold colW
 rw [wordsOf_ext (q := fun _ => false) (fun i _ => h i)]
 have hw : ∀ j, wordAt s.size (fun _ => false) j = 0#64 := fun j => by
  refine BitVec.eq_of_getLsbD_eq fun i hi => ?_
  unfold wordAt
  rw [word_bit]
  simp
 unfold wordsOf
 apply List.ext_getElem
 ·simp
 ·intro i h1 h2
  simp only [List.getElem_map, List.getElem_replicate, hw]
  rfl
theorem colW_all (s : ByteArray) (b : Int) (k : Nat) : colW s b s.size k = wordsOf s.size (colq s b (k + 1)) := wordsOf_ext fun i hi => by
 rw [zz1 hi, Bool.and_true]
section
variable {s : ByteArray} {i p : Nat}
theorem lim_step (h : (placesL s)[i]? = some p) (b : Int) (k j : Nat) : (colq s b k j && decide (j < nextP s (i + 1))) = ((colq s b k j && decide (j < nextP s i)) || (decide (j = p) && colq s b k p)) := by
 obtain ⟨a1, a2, a3, a4, a5, a6⟩ := place_at h
 by_cases c : j = p
 ·subst c
  rw [zz1 a4, decide_eq_false (show ¬ j < nextP s i by omega)]
  simp
 ·rw [decide_eq_false c, Bool.false_and, Bool.or_false]
  by_cases d : j < p
  ·rw [zz1 (show j < nextP s (i + 1) by omega), zz1 (show j < nextP s i by omega)]
  ·rw [decide_eq_false (show ¬ j < nextP s i by omega), Bool.and_false]
   by_cases e : j < nextP s (i + 1)
   ·have := not_beg (a6 j (by omega) e)
    unfold colq
    rw [this]
    rfl
   ·rw [decide_eq_false e, Bool.and_false]
theorem colW_put (h : (placesL s)[i]? = some p) (b : Int) (k : Nat) (hb : colq s b (k + 1) p = true) :
  (colW s b (nextP s i) k).set (p / 64) (bits .or .u64 ((colW s b (nextP s i) k).getD (p / 64) 0) (shl .u64 1 ((p % 64 : Nat) : Int))) = colW s b (nextP s (i + 1)) k := by
 unfold colW
 rw [words_setbit _ _ _ (place_at h).1]
 refine wordsOf_ext fun j _ => ?_
 rw [lim_step h b (k + 1) j, hb, Bool.and_true]
theorem colW_keep (h : (placesL s)[i]? = some p) (b : Int) (k : Nat) (hb : colq s b (k + 1) p = false) : colW s b (nextP s (i + 1)) k = colW s b (nextP s i) k := by
 unfold colW
 refine wordsOf_ext fun j _ => ?_
 rw [lim_step h b (k + 1) j, hb, Bool.and_false, Bool.or_false]
theorem colq_beg (h : begq s p = true) (b : Int) (hb : b = 58 ∨ b = 44) (k : Nat) : colq s b k p = (decide (bt s (p : Int) = b) && decide (dep s p = k)) := by
 unfold colq
 by_cases c : bt s (p : Int) = b
 ·have hs : sgq s p = true := by
   rcases beg_bytes h with h | ⟨_, _, h3⟩
   ·exact h
   ·rw [Bool.or_eq_false_iff, Bool.or_eq_false_iff, c] at h3
    rcases hb with rfl|rfl
    ·exact absurd h3.1.2 (by decide)
    ·exact absurd h3.2 (by decide)
  rw [hs, Bool.true_and]
 ·rw [decide_eq_false c, Bool.and_false, Bool.false_and]
end
end Go.Proofs.YtgddljealeklkaaDoorQ
end
-- WTab
section
namespace Go.Proofs.YtgddljealeklkaaDoorW.PrintLast
open Go.Proofs.YtgddljealeklkaaDoorW.PrintWords (Aside0)
def needsOf (md : Region.Mode) (o : Oper) : List Nat := (o.after.toList.filter (fun e => Region.binds md e)).map (fun e => e.on)
def clashOf (md : Region.Mode) (ops : Array Oper) (i : Nat) (oi : Oper) : List Nat := (List.range ops.size).filter fun j => !(j == i) && match ops[j]? with
 | some oj => !(oj.after.any (fun e => Region.binds md e && e.on == i) || oi.apart ops oj)
 | none => false
def rtab (md : Region.Mode) (ops : Array Oper) : Bool × List (List Nat × List Nat) := (Region.noSelect ops, (List.range ops.size).map fun i => match ops[i]? with
 | some o => (needsOf md o, clashOf md ops i o)
 | none => ([], []))
def readyAt (T : List (List Nat × List Nat)) (l : List Bool) (i : Nat) : Bool := !l.getD i true && match T[i]? with
 | some r => r.1.all (fun j => l.getD j false)
 | none => false
def readyT (T : List (List Nat × List Nat)) (l : List Bool) : List Nat := (List.range T.length).filter (readyAt T l)
def freeT (T : List (List Nat × List Nat)) (l : List Bool) (i : Nat) : Bool := match T[i]? with
 | some r => r.2.all (fun j => l.getD j true)
 | none => false
def closedT (T : List (List Nat × List Nat)) (l : List Bool) : Bool := (List.range T.length).all fun j => !l.getD j false || match T[j]? with
 | some r => r.1.all (fun k => l.getD k false)
 | none => true
def reachT (T : List (List Nat × List Nat)) (i : Nat) : Nat → Nat → Bool
 | 0, _ => false
 | fuel + 1, d => match T[d]? with
  | some r => r.1.any fun j => j == i || reachT T i fuel j
  | none => false
def lastT (T : List (List Nat × List Nat)) (l : List Bool) (ds : List Nat) (i : Nat) : Bool := ds.all fun d => l.getD d true || reachT T i T.length d
section
variable {md : Region.Mode} {ops : Array Oper} {T : Bool × List (List Nat × List Nat)} {l l' li lj lk : Array Bool} {ds : List Nat} {i j k : Nat}
theorem gd (l : Array Bool) (j : Nat) (b : Bool) : l.getD j b = l.toList.getD j b := by simp [Array.getD_eq_getD_getElem?, List.getD_eq_getElem?_getD]
theorem needs_all (o : Oper) (p : Nat → Bool) : o.after.all (fun e => !Region.binds md e || p e.on) = (needsOf md o).all p := by
 unfold needsOf
 rw [← Array.all_toList]
 induction o.after.toList with
 | nil => rfl
 | cons e r ih =>
  rw [List.all_cons, ih, List.filter_cons]
  cases h : Region.binds md e <;> simp
theorem needs_any (o : Oper) (p : Nat → Bool) : o.after.any (fun e => Region.binds md e && p e.on) = (needsOf md o).any p := by
 unfold needsOf
 rw [← Array.any_toList]
 induction o.after.toList with
 | nil => rfl
 | cons e r ih =>
  rw [List.any_cons, ih, List.filter_cons]
  cases h : Region.binds md e <;> simp
theorem rtab_length : (rtab md ops).2.length = ops.size := by simp [rtab]
theorem rtab_some {o : Oper} (h : ops[i]? = some o) : (rtab md ops).2[i]? = some (needsOf md o, clashOf md ops i o) := by
 have hi := (Array.getElem?_eq_some_iff.1 h).1
 unfold rtab
 rw [List.getElem?_map, List.getElem?_range hi, Option.map_some, h]
theorem rtab_none (h : ops[i]? = none) : (rtab md ops).2[i]? = none := by
 have hi : ops.size ≤ i := Array.getElem?_eq_none_iff.1 h
 exact List.getElem?_eq_none (by rw [rtab_length];exact hi)
theorem readyAt_eq : readyAt (rtab md ops).2 l.toList i = (!l.getD i true && ((ops[i]?).map (·.after.all fun e => !Region.binds md e || l.getD e.on false)).getD false) := by
 unfold readyAt
 rw [gd]
 cases h : ops[i]? with
 | none => rw [rtab_none h];rfl
 | some o =>
  rw [rtab_some h]
  simp only [Option.map_some, Option.getD_some]
  rw [← needs_all]
  simp only [gd]
theorem ready_eq : Region.ready md ops l = readyT (rtab md ops).2 l.toList := by
 unfold Region.ready readyT
 rw [rtab_length]
 refine List.filter_congr (fun i _ => ?_)
 rw [readyAt_eq]
theorem free_eq : Region.free md ops l i = freeT (rtab md ops).2 l.toList i := by
 unfold Region.free freeT
 cases h : ops[i]? with
 | none => rw [rtab_none h]
 | some oi =>
  rw [rtab_some h]
  simp only [clashOf]
  rw [List.all_filter]
  congr 1
  funext j
  rw [gd]
  cases hj : ops[j]? with
  | none => cases (j == i) <;> cases (l.toList.getD j true) <;> simp
  | some oj =>
   cases (j == i) <;> cases (l.toList.getD j true) <;> cases (oj.after.any (fun e => Region.binds md e && e.on == i) || oi.apart ops oj) <;> simp_all
theorem closed_eq : Region.closedB md ops l = closedT (rtab md ops).2 l.toList := by
 unfold Region.closedB closedT
 rw [rtab_length]
 congr 1
 funext j
 rw [gd]
 cases h : ops[j]? with
 | none => rw [rtab_none h]
 | some o =>
  rw [rtab_some h]
  simp only
  rw [← needs_all]
  simp only [gd]
theorem reach_eq : ∀ (fuel d : Nat), Region.reachB md ops i fuel d = reachT (rtab md ops).2 i fuel d
 | 0, _ => rfl
 | fuel + 1, d => by
  unfold Region.reachB reachT
  cases h : ops[d]? with
  | none => rw [rtab_none h]
  | some o =>
   rw [rtab_some h]
   simp only
   rw [← needs_any]
   congr 1
   funext e
   rw [reach_eq fuel]
theorem last_eq : Region.lastB md ops l ds i = lastT (rtab md ops).2 l.toList ds i := by
 unfold Region.lastB lastT
 rw [rtab_length]
 congr 1
 funext d
 rw [gd, reach_eq]
theorem readyAt_mem (h : readyAt T.2 l.toList i = true) (hT : rtab md ops = T) : (Region.ready md ops l).contains i = true := by
 subst hT
 rw [ready_eq]
 unfold readyT
 rw [List.contains_iff_mem, List.mem_filter, List.mem_range]
 refine ⟨?_, h⟩
 unfold readyAt at h
 rw [Bool.and_eq_true] at h
 cases hq : (rtab md ops).2[i]? with
 | none => rw [hq] at h;simp at h
 | some r => exact (List.getElem?_eq_some_iff.1 hq).1
theorem set_of (h : (l.toList.set i true == l'.toList) = true) : (l.setIfInBounds i true == l') = true := by
 rw [beq_iff_eq] at h ⊢
 apply Array.ext'
 rw [Array.toList_setIfInBounds]
 exact h
def anyT (T : Bool × List (List Nat × List Nat)) (l l' : List Bool) (i : Nat) : Bool := T.1 && freeT T.2 l i && readyAt T.2 l i && (l.set i true == l')
theorem any_of (hT : rtab md ops = T) (h : anyT T l.toList l'.toList i = true) : anyB md ops l l' i = true := by
 simp only [anyT, Bool.and_eq_true] at h
 obtain ⟨⟨⟨h1, h2⟩, h3⟩, h4⟩ := h
 have h5 := readyAt_mem h3 hT
 have h6 := set_of h4
 subst hT
 simp only [anyB, Bool.and_eq_true]
 exact ⟨⟨⟨h1, by rw [free_eq];exact h2⟩, h5⟩, h6⟩
def takeT (T : Bool × List (List Nat × List Nat)) (ds : List Nat) (l l' : List Bool) (i : Nat) : Bool := T.1 && freeT T.2 l i && readyAt T.2 l i && closedT T.2 l && lastT T.2 l ds i && (l.set i true == l')
theorem take_of (hT : rtab md ops = T) (h : takeT T ds l.toList l'.toList i = true) : takeB md ops ds l l' i = true := by
 simp only [takeT, Bool.and_eq_true] at h
 obtain ⟨⟨⟨⟨⟨h1, h2⟩, h3⟩, h4⟩, h5⟩, h6⟩ := h
 have h7 := readyAt_mem h3 hT
 have h8 := set_of h6
 subst hT
 simp only [takeB, Bool.and_eq_true]
 exact ⟨⟨⟨⟨⟨h1, by rw [free_eq];exact h2⟩, h7⟩, by rw [closed_eq];exact h4⟩, by rw [last_eq];exact h5⟩, h8⟩
theorem one_of (hT : rtab md ops = T) (h : (readyT T.2 l.toList == [i] && l.toList.set i true == l'.toList) = true) : readyB md ops l l' i = true := by
 simp only [Bool.and_eq_true] at h
 obtain ⟨h1, h2⟩ := h
 subst hT
 simp only [readyB, Bool.and_eq_true]
 exact ⟨by rw [ready_eq];exact h1, set_of h2⟩
theorem two_of (hT : rtab md ops = T) (h : (readyT T.2 l.toList == [i, j] && l.toList.set i true == li.toList && l.toList.set j true == lj.toList) = true) : (Region.ready md ops l == [i, j] && l.setIfInBounds i true == li && l.setIfInBounds j true == lj) = true := by
 simp only [Bool.and_eq_true] at h ⊢
 obtain ⟨⟨h1, h2⟩, h3⟩ := h
 subst hT
 exact ⟨⟨by rw [ready_eq];exact h1, set_of h2⟩, set_of h3⟩
theorem done_of (hT : rtab md ops = T) (h : (readyT T.2 l.toList == []) = true) : (Region.ready md ops l == []) = true := by
 subst hT
 rw [ready_eq]
 exact h
def upM (B : List Nat) (d : Nat) : List Nat → Nat
 | [] => 0
 | n :: r => (2 ^ n ||| (if n < d then B.getD n 0 else 0)) ||| upM B d r
def waitsOk (T : List (List Nat × List Nat)) (B : List Nat) : Bool := (List.range T.length).all fun d => match T[d]? with
 | some r => (B.getD d 0 ||| upM B d r.1) == upM B d r.1
 | none => false
theorem upM_bit {B : List Nat} {d i : Nat} : ∀ {ns : List Nat}, (upM B d ns).testBit i = true → ∃ n ∈ ns, n = i ∨ (n < d ∧ (B.getD n 0).testBit i = true)
 | [], h => by simp [upM] at h
 | n :: r, h => by
  unfold upM at h
  rw [Nat.testBit_or, Nat.testBit_or, Bool.or_eq_true, Bool.or_eq_true] at h
  rcases h with (h|h)|h
  ·rw [Nat.testBit_two_pow] at h
   exact ⟨n, List.mem_cons_self, .inl (by simpa using h)⟩
  ·by_cases hn : n < d
   ·rw [if_pos hn] at h
    exact ⟨n, List.mem_cons_self, .inr ⟨hn, h⟩⟩
   ·rw [if_neg hn] at h
    simp at h
  ·obtain ⟨m, hm, h2⟩ := upM_bit h
   exact ⟨m, List.mem_cons_of_mem _ hm, h2⟩
theorem reach_bit {T : List (List Nat × List Nat)} {B : List Nat} (hB : waitsOk T B = true) : ∀ (fuel d : Nat), d < fuel → d < T.length → (B.getD d 0).testBit i = true → reachT T i fuel d = true
 | 0, d, h, _, _ => by omega
 | fuel + 1, d, h, hd, hb => by
  have h1 := List.all_eq_true.1 hB d (List.mem_range.2 hd)
  cases hr : T[d]? with
  | none => rw [hr] at h1;simp at h1
  | some r =>
   rw [hr] at h1
   simp only [beq_iff_eq] at h1
   have h2 : (upM B d r.1).testBit i = true := by rw [← h1, Nat.testBit_or, hb, Bool.true_or]
   obtain ⟨n, hn, h3⟩ := upM_bit h2
   unfold reachT
   rw [hr]
   simp only
   rw [List.any_eq_true]
   refine ⟨n, hn, ?_⟩
   rcases h3 with rfl | ⟨h4, h5⟩
   ·simp
   ·rw [reach_bit hB fuel n (by omega) (by omega) h5, Bool.or_true]
def lastW (T : List (List Nat × List Nat)) (B : List Nat) (l : List Bool) (ds : List Nat) (i : Nat) : Bool := ds.all fun d => l.getD d true || (decide (d < T.length) && (B.getD d 0).testBit i)
def takeW (T : Bool × List (List Nat × List Nat)) (B : List Nat) (ds : List Nat) (l l' : List Bool) (i : Nat) : Bool := T.1 && freeT T.2 l i && readyAt T.2 l i && closedT T.2 l && lastW T.2 B l ds i && (l.set i true == l')
theorem take_ofW {B : List Nat} (hT : rtab md ops = T) (hB : waitsOk T.2 B = true) (h : takeW T B ds l.toList l'.toList i = true) : takeB md ops ds l l' i = true := by
 refine take_of hT ?_
 simp only [takeW, takeT, Bool.and_eq_true] at h ⊢
 obtain ⟨⟨⟨⟨⟨h1, h2⟩, h3⟩, h4⟩, h5⟩, h6⟩ := h
 refine ⟨⟨⟨⟨⟨h1, h2⟩, h3⟩, h4⟩, ?_⟩, h6⟩
 unfold lastW at h5
 unfold lastT
 rw [List.all_eq_true] at h5 ⊢
 intro d hd
 have h7 := h5 d hd
 rw [Bool.or_eq_true, Bool.and_eq_true, decide_eq_true_eq] at h7
 rcases h7 with h7 | ⟨h8, h9⟩
 ·rw [h7, Bool.true_or]
 ·rw [reach_bit hB _ d h8 h8 h9, Bool.or_true]
theorem with_tabW {P : Program} {Q : Exit → Act → World → Prop} {S : World → Prop} {n : Nat} {a : Act} {w : World} {B : List Nat} (hT : rtab md ops = T) (hB : waitsOk T.2 B = true) (h : Aside0 (rtab md ops = T) → Aside0 (waitsOk T.2 B = true) → wpAnyLast P md ops Q S ds n l a w) : wpAnyLast P md ops Q S ds n l a w := h ⟨hT⟩ ⟨hB⟩
end
def opsIn : Code → Nat → Option (Array Oper)
 | .region id ops _, k => if id == k then some ops else none
 | .seq a b, k => match opsIn a k with
  | some o => some o
  | none => opsIn b k
 | .cond _ a b, k => match opsIn a k with
  | some o => some o
  | none => opsIn b k
 | .block _ c, k => opsIn c k
 | .loop c, k => opsIn c k
 | .scope c, k => opsIn c k
 | .rangeFunc _ _ a b, k => match opsIn a k with
  | some o => some o
  | none => opsIn b k
 | _, _ => none
def opsOf (f : Func) (k : Nat) : Array Oper := ((f.body.bind fun c => opsIn c k)).getD #[]
end Go.Proofs.YtgddljealeklkaaDoorW.PrintLast
end
-- WRepsOne
section
namespace Go.Proofs.YtgddljealeklkaaDoorW.PrintWords
theorem Reps.one {α : Type} {R : α → List Value → Prop} {ps : List α} {cs : List Value} {p : α} {v : Value} (hp : R p [v]) (h : Reps R 1 ps cs) : Reps R 1 (p :: ps) (v :: cs) := by
 refine ⟨by simp [h.1], fun j q hq => ?_⟩
 cases j with
 | zero =>
  simp only [List.getElem?_cons_zero, Option.some.injEq] at hq
  subst hq
  simpa using hp
 | succ j =>
  simp only [List.getElem?_cons_succ] at hq
  have h1 := h.2 j q hq
  simpa [Nat.mul_one] using h1
end Go.Proofs.YtgddljealeklkaaDoorW.PrintWords
end
-- WInv
section
namespace Go.Proofs.YtgddljealeklkaaDoorW.PrintLast
def up (b : Nat → Bool) (i : Nat) : Nat → Bool := fun j => if j = i then true else b j
section
variable {P : Program} {ops : Array Oper} {Q : Exit → Act → World → Prop} {md : Region.Mode} {T : Bool × List (List Nat × List Nat)} {B : List Nat} {O : List Nat} {b : Nat → Bool} {i j n : Nat}
end
end Go.Proofs.YtgddljealeklkaaDoorW.PrintLast
end
-- WGuard
section
namespace Go.Proofs.YtgddljealeklkaaDoorW.PrintWords
open Go.RowKit
section
variable {P : Program} {ops : Array Oper} {rest : List Oper} {o : Oper} {a : Act} {Q : Exit → Act → World → Prop} {W : World}
theorem gate_guard (hw : Region.wanted o (yielded ops a.tmps) = true) (h : wpList P ops Q ({ o with guard := none } :: rest) a W) : wpList P ops Q (o :: rest) a W := by
 have h1 : Region.wanted { o with guard := none } (yielded ops a.tmps) = true := rfl
 unfold wpList at h ⊢
 rw [if_pos h1] at h
 rw [if_pos hw]
 exact h
end
end Go.Proofs.YtgddljealeklkaaDoorW.PrintWords
end
section
namespace Go.Proofs
theorem yy1 : type_of% @Go.Proofs.YtgddljealeklkaaDoorW.PrintWords.Kd.R_alloc := @Go.Proofs.YtgddljealeklkaaDoorW.PrintWords.Kd.R_alloc
theorem yy2 : type_of% @Go.Proofs.YtgddljealeklkaaDoorW.PrintWords.Kd.R_drewN := @Go.Proofs.YtgddljealeklkaaDoorW.PrintWords.Kd.R_drewN
theorem yy3 : type_of% @Go.Proofs.YtgddljealeklkaaDoorW.PrintWords.Kd.R_drew := @Go.Proofs.YtgddljealeklkaaDoorW.PrintWords.Kd.R_drew
theorem yy4 : type_of% @Go.Proofs.YtgddljealeklkaaDoorW.PrintWords.Kd.S_alloc := @Go.Proofs.YtgddljealeklkaaDoorW.PrintWords.Kd.S_alloc
theorem yy5 : type_of% @Go.Proofs.YtgddljealeklkaaDoorW.PrintWords.Kd.S_drewN := @Go.Proofs.YtgddljealeklkaaDoorW.PrintWords.Kd.S_drewN
theorem yy6 : type_of% @Go.Proofs.YtgddljealeklkaaDoorW.PrintWords.Kd.S_drew := @Go.Proofs.YtgddljealeklkaaDoorW.PrintWords.Kd.S_drew
theorem yy7 : type_of% @Go.Proofs.YtgddljealeklkaaDoorW.PrintWords.Kd.R_away := @Go.Proofs.YtgddljealeklkaaDoorW.PrintWords.Kd.R_away
theorem yy8 : type_of% @Go.Proofs.YtgddljealeklkaaDoorW.PrintWords.Kd.own_blk := @Go.Proofs.YtgddljealeklkaaDoorW.PrintWords.Kd.own_blk
theorem yy9 : type_of% @Go.Proofs.YtgddljealeklkaaDoorW.PrintWords.Kd.R_below := @Go.Proofs.YtgddljealeklkaaDoorW.PrintWords.Kd.R_below
theorem yy10 : type_of% @Go.Proofs.YtgddljealeklkaaDoorW.PrintWords.Kd.S_below := @Go.Proofs.YtgddljealeklkaaDoorW.PrintWords.Kd.S_below
theorem yy0 : type_of% @Go.Proofs.YtgddljealeklkaaDoorW.PrintWords.blk_grown := @Go.Proofs.YtgddljealeklkaaDoorW.PrintWords.blk_grown
end Go.Proofs
end
-- PLx0
section
namespace Go.Proofs.YtgddljealeklkaaDoor.PL
open Go.RowKit Go.Proofs.YtgddljealeklkaaDoorW.PrintWords Go.Proofs.YtgddljealeklkaaDoorW.PrintLast Go.Proofs.YtgddljealeklkaaDoorW.PrintMore
attribute [local go_sem] max2_int min2_int max_two min_two max_three min_three max_four min_four   -- for this text's walks alone
set_option linter.unusedVariables false
set_option linter.unusedSimpArgs false



def errW : Option Int → Value
 | none => .nilIface
 | some c => .iface 0 (.int .i64 c)
theorem errW_none : errW none = .nilIface := rfl
theorem errW_some (c : Int) : errW (some c) = .iface 0 (.int .i64 c) := rfl

theorem info3 : (Tryd.prog.info? 3).map (fun i => (i.zero, i.size, i.bytes)) = some (some (.int .i64 0), 1, 8) := by kernel_rfl
theorem info4 : (Tryd.prog.info? 4).map (fun i => (i.zero, i.size, i.bytes)) = some (some (.bool false), 1, 1) := by kernel_rfl
theorem info34 : (Tryd.prog.info? 34).map (fun i => (i.zero, i.size, i.bytes)) = some (some (.agg #[(.int .i64 0), (.slice none 0 0)]), 2, 32) := by kernel_rfl
theorem info75 : (Tryd.prog.info? 75).map (fun i => (i.zero, i.size, i.bytes)) = some (some (.int .u64 0), 1, 8) := by kernel_rfl
structure S34 where
 f0 : Int
 f1 : (List Int)
def z34 : S34 := ⟨(0 : Int), ([] : List Int)⟩
def k34 : Kd S34 := Kd.iso (Kd.pair (Kd.int .i64) (Kd.slice 75 (Kd.int .u64))) (fun x : S34 => (x.f0, x.f1))
theorem k34_open {w : World} {x : S34} {cs : List Value} (h : k34.K w x cs) : ∃ A1 c1, cs = [.int .i64 x.f0, .slice A1 x.f1.length c1] ∧ x.f1.length ≤ c1 ∧ (Kd.int .u64).C w A1 x.f1.length x.f1 := by
 obtain ⟨_, _, rfl, rfl, ⟨A1, c1, rfl, l1, g1⟩⟩ := h
 exact ⟨A1, c1, rfl, l1, g1⟩
theorem k34_mkM (w : World) (base : Nat) (ok : Nat → Prop) (x : S34) {v1 : Value} (g1 : (Kd.int .u64).R 75 w base ok v1 x.f1) : k34.M w base ok x [.int .i64 x.f0, v1] := ⟨[.int .i64 x.f0], [v1], rfl, rfl, ⟨v1, rfl, g1⟩⟩
def rd_T34 (xs : List S34) (i : Int) : S34 := xs.getD i.toNat z34
theorem at_T34 {w : World} {A : Option Addr} {n : Nat} {xs : List S34} (h : Kd.C k34 w A n xs) (i : Int) (h0 : 0 ≤ i) (h1 : i < n) : ∃ ad A1 c1, A = some ad ∧ w.cell? (ad.add (i.toNat * 2)) = some (.int .i64 (rd_T34 xs i).f0) ∧ w.cell? ⟨(ad.add (i.toNat * 2)).block, (ad.add (i.toNat * 2)).off + 1, none⟩ = some (.slice A1 (rd_T34 xs i).f1.length c1) ∧ (rd_T34 xs i).f1.length ≤ c1 ∧ (Kd.int .u64).C w A1 (rd_T34 xs i).f1.length (rd_T34 xs i).f1 := by
 obtain ⟨ad, c, e, _, hK, hc0⟩ := Kd.C_get h z34 i h0 h1
 have hc : ∀ j u, c[j]? = some u → w.cell? (ad.add (i.toNat * 2 + j)) = some u := hc0
 obtain ⟨A1, c1, rfl, l1, g1⟩ := k34_open hK
 exact ⟨ad, A1, c1, e, hc 0 _ rfl, by rw [← add_field _ _ 1 (by omega)];exact hc 1 _ rfl, l1, g1⟩

structure S77 where
 f0 : Int
 f1 : Int
 f2 : Int
 f3 : Int
def z77 : S77 := ⟨(0 : Int), (0 : Int), (0 : Int), (0 : Int)⟩
def k77 : Kd S77 := Kd.iso (Kd.pair (Kd.int .u64) (Kd.pair (Kd.int .u64) (Kd.pair (Kd.int .u64) (Kd.int .u64)))) (fun x : S77 => (x.f0, x.f1, x.f2, x.f3))
theorem k77_open {w : World} {x : S77} {cs : List Value} (h : k77.K w x cs) : cs = [.int .u64 x.f0, .int .u64 x.f1, .int .u64 x.f2, .int .u64 x.f3] := by
 obtain ⟨_, _, rfl, rfl, ⟨_, _, rfl, rfl, ⟨_, _, rfl, rfl, rfl⟩⟩⟩ := h
 exact rfl
theorem k77_mkM (w : World) (base : Nat) (ok : Nat → Prop) (x : S77)  : k77.M w base ok x [.int .u64 x.f0, .int .u64 x.f1, .int .u64 x.f2, .int .u64 x.f3] := ⟨[.int .u64 x.f0], [.int .u64 x.f1, .int .u64 x.f2, .int .u64 x.f3], rfl, rfl, ⟨[.int .u64 x.f1], [.int .u64 x.f2, .int .u64 x.f3], rfl, rfl, ⟨[.int .u64 x.f2], [.int .u64 x.f3], rfl, rfl, rfl⟩⟩⟩
def rd_T77 (xs : List S77) (i : Int) : S77 := xs.getD i.toNat z77
theorem at_T77 {w : World} {A : Option Addr} {n : Nat} {xs : List S77} (h : Kd.C k77 w A n xs) (i : Int) (h0 : 0 ≤ i) (h1 : i < n) : ∃ ad , A = some ad ∧ w.cell? (ad.add (i.toNat * 4)) = some (.int .u64 (rd_T77 xs i).f0) ∧ w.cell? ⟨(ad.add (i.toNat * 4)).block, (ad.add (i.toNat * 4)).off + 1, none⟩ = some (.int .u64 (rd_T77 xs i).f1) ∧ w.cell? ⟨(ad.add (i.toNat * 4)).block, (ad.add (i.toNat * 4)).off + 2, none⟩ = some (.int .u64 (rd_T77 xs i).f2) ∧ w.cell? ⟨(ad.add (i.toNat * 4)).block, (ad.add (i.toNat * 4)).off + 3, none⟩ = some (.int .u64 (rd_T77 xs i).f3) := by
 obtain ⟨ad, c, e, _, hK, hc0⟩ := Kd.C_get h z77 i h0 h1
 have hc : ∀ j u, c[j]? = some u → w.cell? (ad.add (i.toNat * 4 + j)) = some u := hc0
 obtain rfl := k77_open hK
 exact ⟨ad, e, hc 0 _ rfl, by rw [← add_field _ _ 1 (by omega)];exact hc 1 _ rfl, by rw [← add_field _ _ 2 (by omega)];exact hc 2 _ rfl, by rw [← add_field _ _ 3 (by omega)];exact hc 3 _ rfl⟩

structure S48 where
 f0 : (List S34)
 f1 : (List S34)
structure S26 where
 f0 : Int
 f1 : Int
def k26 : Kd S26 := Kd.iso (Kd.pair (Kd.int .i64) (Kd.int .i64)) (fun x : S26 => (x.f0, x.f1))
end Go.Proofs.YtgddljealeklkaaDoor.PL
end
-- PLx1
section
namespace Go.Proofs.YtgddljealeklkaaDoor.PL
open Go.RowKit Go.Proofs.YtgddljealeklkaaDoorW.PrintWords Go.Proofs.YtgddljealeklkaaDoorW.PrintLast Go.Proofs.YtgddljealeklkaaDoorW.PrintMore
attribute [local go_sem] max2_int min2_int max_two min_two max_three min_three max_four min_four   -- for this text's walks alone
set_option linter.unusedVariables false
set_option linter.unusedSimpArgs false

def levels_rows.l0 : Nat → Int → List (S34) → Int → Int → Option ((List (S34)))
 | 0, _, _, _, _ => none
 | k + 1, x0, x5, x6, x7 => if x7 < x6 then (if 0 ≤ (wrap64 (Int.tdiv (wrap64 (x0 + 63)) 64)) then (if (wrap64 (Int.tdiv (wrap64 (x0 + 63)) 64) : Int).toNat ≤ 35184372088832 then (if x5.length < 4398046511104 then (levels_rows.l0 k x0 (x5 ++ [(⟨x0, (List.replicate (wrap64 (Int.tdiv (wrap64 (x0 + 63)) 64) : Int).toNat 0)⟩ : S34)]) x6 (wrap64 (x7 + 1))) else (none)) else (none)) else (none)) else (some x5)
def levels_rows.f (k : Nat) (a0 : Int) (a1 : Int) : Option ((List (S34))) := levels_rows.l0 k a0 ([] : List (S34)) a1 0
set_option maxHeartbeats 8000000 in
set_option maxRecDepth 100000 in
theorem levels_rows.calls (k : Nat) (a0 : Int) (a1 : Int) (r : List (S34)) (w : World) (h : levels_rows.f k a0 a1 = some r) :
  Calls Tryd.prog 63 #[.int .i64 a0, .int .i64 a1] w fun e w' => ∃ v0_ : Value, e = .returned (v0_) ∧ Kd.S k34 34 w' w.heap.size (fun _ => True) v0_ r ∧ Below w.heap.size w w' := by
 have hu34 := Tryd.underlying34
 have HB := zA (Below.refl w.heap.size w)
 have H : (levels_rows.l0 k a0 ([] : List (S34)) a1 0) = some r := h
 clear h
 have H' := zA H
 clear H
 go_enter Tryd.func63, Tryd.ntmps63
 go_wp2
 go_loopg [5, 7] k (fun kq v5 v7 w' => ∃ (x5_1 : List (S34)) (x7_1 : Int), v7 = .int .i64 x7_1 ∧ Aside0 (levels_rows.l0 kq a0 x5_1 a1 x7_1 = some r) ∧ Aside0 (kq ≤ k) ∧ Aside0 (Kd.S k34 34 w' w.heap.size (fun _ => True) v5 x5_1) ∧ Aside0 (Below w.heap.size w w'))
 case atStart => exact ⟨(([] : List (S34))), (0), (by first|rfl|(simp;done)|(simp [*];done)), H', ⟨Nat.le_refl _⟩, ⟨by first|exact Kd.S_nil _ _ _ _ _|exact Kd.N_nil _ _ _ _ _|exact Kd.V_nil _ _ _ _ _|exact Kd.Q_nil _ _ _ _ _|exact Kd.R_nil _ _ _ _ _⟩, ⟨by repeat (first|(with_reducible first|exact HB.out|apply zG|apply zF|apply zH)|exact HB.out)⟩⟩
 case round =>
  clear H'
  try clear p2
  obtain ⟨x5_1, x7_1, rfl, HA, HK1, HO_5, HB⟩ := hrel
  cases gk with
  | zero => exact absurd HA.out (by simp [levels_rows.l0])
  | succ k1 =>
   have H := HA.out
   clear HA
   simp only [levels_rows.l0] at H
   by_cases c3 : x7_1 < a1
   ·rw [if_pos c3] at H
    have c3b0 : decide (x7_1 < a1) = true := zz1 c3
    clear c3
    obtain ⟨ji4, hji4⟩ : ∃ j_ : Int, (wrap64 (Int.tdiv (wrap64 (a0 + 63)) 64)) = j_ := ⟨_, rfl⟩
    replace H : (if 0 ≤ (ji4) then (if (ji4 : Int).toNat ≤ 35184372088832 then (if x5_1.length < 4398046511104 then (levels_rows.l0 k1 a0 (x5_1 ++ [(⟨a0, (List.replicate (ji4 : Int).toNat 0)⟩ : S34)]) a1 (wrap64 (x7_1 + 1))) else (none)) else (none)) else (none)) = some r := by first|(rw [hji4] at H;exact H)|(simp only [hji4] at H ⊢;exact H)
    have hji4w : (IntKind.i64.wrap (Int.tdiv (wrap64 (a0 + 63)) 64)) = ji4 := (i64_w _).trans hji4
    by_cases c5 : 0 ≤ (ji4)
    ·rw [if_pos c5] at H
     have c5b0 := eq_true c5
     have c5b1 : decide (0 ≤ (ji4)) = true := zz1 c5
     clear c5
     by_cases c6 : (ji4 : Int).toNat ≤ 35184372088832
     ·rw [if_pos c6] at H
      have c6b0 := eq_true c6
      have c6b1 : decide ((ji4 : Int).toNat ≤ 35184372088832) = true := zz1 c6
      clear c6
      obtain ⟨y101, hy101⟩ : ∃ y_ : List Int, y_ = (List.replicate (ji4 : Int).toNat 0) := ⟨_, rfl⟩
      replace H : (if x5_1.length < 4398046511104 then (levels_rows.l0 k1 a0 (x5_1 ++ [(⟨a0, y101⟩ : S34)]) a1 (wrap64 (x7_1 + 1))) else (none)) = some r := by first|(rw [hy101];with_reducible exact H)|(have H2_ := (zz3 _ _).symm.trans H;rw [hy101];with_reducible exact H2_)|(have H2_ := (zz3 _ _).symm.trans H;with_reducible exact H2_)|with_reducible exact H|(rw [hy101];exact H)|exact H
      have Ny101 := zA hy101
      clear hy101
      by_cases c7 : x5_1.length < 4398046511104
      ·rw [if_pos c7] at H
       have LMc7 := zA c7
       clear c7
       obtain ⟨y104, hy104⟩ : ∃ y_ : List (S34), y_ = (x5_1 ++ [(⟨a0, y101⟩ : S34)]) := ⟨_, rfl⟩
       replace H : (levels_rows.l0 k1 a0 y104 a1 (wrap64 (x7_1 + 1))) = some r := by first|(rw [hy104];with_reducible exact H)|(have H2_ := (zz3 _ _).symm.trans H;rw [hy104];with_reducible exact H2_)|(have H2_ := (zz3 _ _).symm.trans H;with_reducible exact H2_)|with_reducible exact H|(rw [hy104];exact H)|exact H
       have Ny104 := zA hy104
       clear hy104
       have H' := zA H
       clear H
       go_wp2_with (first|((with_reducible refine gate_dst (N := 14) rfl ?_);refine Kd.R_make (Kd.int .u64) _ 75 rfl (N := 14) rfl 32 _ _ rfl ji4 rfl rfl Tryd.underlying32 (.int .u64 0) 8 info75 rfl (by decide) (by omega) 0 (ok := fun _ => True) (okp := fun _ => True) rfl (fun _ hk => hk) trivial (zE (by first|(with_reducible assumption)|assumption)) (zz2 (Nat.mul_le_mul_right _ (zE (by first|(with_reducible assumption)|assumption) : ji4.toNat ≤ 35184372088832)) (by omega)) (Below.refl _ _) (Nat.le_refl _) ?_;intro v102 w8 ho9 hb hg_ hnew_;clear hg_ hnew_;(first|rw [← Ny101.out] at ho9|(simp only [Int.reduceToNat] at ho9;rw [← Ny101.out] at ho9));have n0_ := zA (Kd.S_elder' (by (with_reducible repeat (first|apply yy4|apply yy5|apply yy6));exact HO_5.out) (Kd.R_base ho9) hb);have n1_ := zA (Kd.R_lower ho9 (zO (by repeat (first|(with_reducible first|exact HB.out|apply zG|apply zF|apply zH)|exact HB.out))));have n2_ := zA (zN (by repeat (first|(with_reducible first|exact HB.out|apply zG|apply zF|apply zH)|exact HB.out)) hb);clear HO_5;clear HB;have HO_5 := n0_;have HO103 := n1_;have HB := n2_;clear n0_ n1_ n2_;clear hb ho9;obtain ⟨Ao10, co10, eo10⟩ := Kd.R_slice HO103.out;subst eo10)|((with_reducible refine gate_builtin (b := .append) (xs := #[.tmp 9, .tmp 16]) rfl ?_);at_builtin;refine Kd.S_append k34 (w0 := w) w.heap.size rfl (.tmp 9) (.tmp 16) 46 34 (.agg #[(.int .i64 0), (.slice none 0 0)]) 32 rfl Tryd.underlying46 info34 rfl (by decide) (by omega) u5 x5_1 (⟨a0, y101⟩ : S34) [.int .i64 a0, .slice Ao10 y101.length co10] (fun _ => True) (fun k_ => some k_ = (.slice Ao10 y101.length co10 : Value).ownBlock) rfl rfl ?aP (fun k_ hk_ => ((Kd.R_mono (ok' := fun k_ => ((fun _ => True)) k_ ∧ some k_ ≠ (u5 : Value).ownBlock) (Kd.R_apart' (HO103.out) (Kd.S_typed HO_5.out) (by decide)) (fun k_ hk => ⟨trivial, hk.2⟩))).1 k_ hk_.symm) ?aF ?aO ?aB ?aS ?aL ?_;(case aP => exact k34_mkM _ _ _ (⟨a0, y101⟩ : S34) (Kd.R_mono (Kd.R_tight rfl (Kd.R_mono (ok' := fun k_ => ((fun _ => True)) k_ ∧ some k_ ≠ (u5 : Value).ownBlock) (Kd.R_apart' (HO103.out) (Kd.S_typed HO_5.out) (by decide)) (fun k_ hk => ⟨trivial, hk.2⟩))) (fun _ h_ => h_)));(case aB => exact (by repeat (first|(with_reducible first|exact HB.out|apply zG|apply zF|apply zH)|exact HB.out)));(case aF => exact (fun _ _ => trivial));(case aO => exact (by (with_reducible repeat (first|apply yy4|apply yy5|apply yy6));exact Kd.S_mono HO_5.out (fun k_ hk => ⟨trivial, fun e_ => hk.2 e_⟩)));(case aS => exact (zO (by repeat (first|(with_reducible first|exact HB.out|apply zG|apply zF|apply zH)|exact HB.out))));(case aL => have := LMc7.out;omega);intro v105 w11 ho hb hg hat;rw [← Ny104.out] at ho;have n0_ := zA (hb);have n1_ := zA (ho);clear HB;clear HO_5;clear HO103;have HB := n0_;have HO106 := n1_;clear n0_ n1_;clear ho hb hg hat))
       go_roundg k1
       case measure => have := HK1.out;omega
       case rel => exact ⟨(y104), (wrap64 (x7_1 + 1)), (by first|rfl|(simp;done)|(simp [*];done)), H', ⟨by have := HK1.out;omega⟩, ⟨by (with_reducible repeat (first|apply yy4|apply yy5|apply yy6));exact HO106.out⟩, ⟨by repeat (first|(with_reducible first|exact HB.out|apply zG|apply zF|apply zH)|exact HB.out)⟩⟩
      ·rw [if_neg c7] at H
       exact absurd H (by simp)
     ·rw [if_neg c6] at H
      exact absurd H (by simp)
    ·rw [if_neg c5] at H
     exact absurd H (by simp)
   ·rw [if_neg c3] at H
    have c3b0 : decide (x7_1 < a1) = false := decide_eq_false c3
    clear c3
    obtain rfl := Option.some.inj H
    go_wp2
    go_ret
    exact ⟨_, by first|rfl|(simp [errW_none, errW_some] <;> rfl)|(simp [*, errW_none, errW_some] <;> rfl), by (with_reducible repeat (first|apply yy4|apply yy5|apply yy6));exact HO_5.out, by repeat (first|(with_reducible first|exact HB.out|apply zG|apply zF|apply zH)|exact HB.out)⟩

open Go.Proofs.YtgddljealeklkaaDoorQ Go.Proofs.YtgddljealeklkaaDoorM in
set_option maxHeartbeats 4000000 in
set_option maxRecDepth 100000 in
theorem block_filled.calls (x : Int) (w : World) :
  Calls Tryd.prog 112 #[.int .u8 x] w fun e w' => e = .returned (.agg (blkA fun _ => x)) ∧ Below w.heap.size w w' := by
 have HB := BelowH.refl w
 go_enter Tryd.func112, Tryd.ntmps112
 go_wp2_with (first|((with_reducible refine gate_dst (N := 2) rfl ?_);refine ev_alloc HB rfl (blkA fun _ => 0) 85 ?hr ?_;(case hr => (rw [← blkA_zero];go_simp;rfl));intro g0 w1 G_g0 GE_g0 B_g0 HBn K_g0;clear HB;have HB := HBn;clear HBn)|((with_reducible refine gate_dst (N := 3) rfl ?_);refine ev_alloc HB rfl (blkA fun _ => 0) 85 ?hr ?_;(case hr => (rw [← blkA_zero];go_simp;rfl));intro g1 w2 G_g1 GE_g1 B_g1 HBn K_g1;clear HB;have HB := HBn;clear HBn))
 have B0 := B_g0.below K_g1.out
 have NE := zA (show g0 ≠ g1 by have := B_g0.lt;have := G_g1.out;omega)
 go_loopw [5] (fun v wr => ∃ i : Nat, i ≤ 64 ∧ v = .int .i64 i ∧ Blk wr g1 (blkA fun j => if j < i then x else 0) 85 ∧ Blk wr g0 (blkA fun _ => 0) 85 ∧ BelowH w wr) (fun v _ => 64 - (intOf v).toNat)
 case atStart => exact ⟨0, by omega, rfl, by simpa using B_g1, B0, HB⟩
 case round =>
  clear B0 B_g1 B_g0 HB
  obtain ⟨i, hi, rfl, B1, B0, HB⟩ := hrel
  by_cases hlt : i < 64
  ·have hc := B1.cell (blkA_get _ hlt)
   have hf := B1.frozen i
   go_wp2
   go_roundw
   case rel =>
    refine ⟨i + 1, by omega, by go_num, ?_, B0.far NE.out _ _, HB.set GE_g1.out _ _⟩
    exact (B1.set i (.int .u8 x)).eqA (blkA_set hlt (by simp) (fun j hj => by
     by_cases h : j < i
     ·rw [if_pos h, if_pos (by omega)]
     ·rw [if_neg h, if_neg (by omega)]))
   case measure => simp [intOf];omega
  ·have E : Blk wr g1 (blkA fun _ => x) 85 := B1.eqA (blkA_congr fun j hj => by rw [if_pos (by omega)])
   clear B1
   go_wp2_with (first|((with_reducible refine gate_dst (N := 12) rfl ?_);refine ev_load E rfl 85 _ rfl rfl Tryd.underlying85 (size64' _) ?_)|((with_reducible refine gate_ (Op.store 85 (.tmp 2) (.tmp 12)) rfl ?_);refine ev_store HB B0 GE_g0 rfl 85 _ _ rfl rfl rfl (size64' _) (by rw [blkA_size, blkA_size]) (blkA_one _) ?_;intro w3 B3 HBn K_w3;clear HB;have HB := HBn;clear HBn))
   refine bodyPost_ret (results_cell_row rfl _ _ g0 85 _ (0, 0) _ rfl B3.out Tryd.underlying85 rfl (size64' _)) rfl ?_
   exact ⟨rfl, HB.out⟩


open Go.Proofs.YtgddljealeklkaaDoorQ Go.Proofs.YtgddljealeklkaaDoorM in
set_option maxHeartbeats 4000000 in
set_option maxRecDepth 100000 in
theorem block_Cut.calls_out (s : ByteArray) (at_ pad : Int) (w : World) (h : at_ < 0 ∨ (s.size : Int) ≤ at_) :
  Calls Tryd.prog 93 #[.string s, .int .i64 at_, .int .u8 pad] w fun e w' => e = .returned (.tuple #[.agg (blkA (cutF s at_ pad)), .int .i64 0]) ∧ Below w.heap.size w w' := by
 have HB := BelowH.refl w
 have E : (blkA fun _ => pad) = blkA (cutF s at_ pad) := blkA_congr fun i _ => by unfold cutF;rw [if_neg (by omega)]
 have HE := zA E
 clear E
 rcases h with h|h
 ·go_enter Tryd.func93, Tryd.ntmps93
  go_wp2_with (first|((with_reducible refine gate_dst (N := 6) rfl ?_);refine ev_alloc HB rfl (blkA fun _ => 0) 85 ?hr ?_;(case hr => (rw [← blkA_zero];go_simp;rfl));intro g0 w1 G_g0 GE_g0 B_g0 HBn K_g0;clear HB;have HB := HBn;clear HBn)|(go_at_call 112;refine (block_filled.calls pad _).mono ?_;rintro e w2 ⟨rfl, hb2⟩;have B2 := B_g0.below hb2;have HB2 := HB.step hb2;clear HB;have HB := HB2;clear HB2 hb2)|((with_reducible refine gate_ (Op.store 85 (.tmp 6) (.tmp 19)) rfl ?_);refine ev_store HB B2 GE_g0 rfl 85 _ _ rfl rfl rfl (size64' _) (by rw [blkA_size, blkA_size]) (blkA_one _) ?_;intro w3 B3 HBn K_w3;clear HB;have HB := HBn;clear HBn))
  refine bodyPost_ret (results_row_tmp rfl _ _ g0 85 _ _ rfl B3 Tryd.underlying85 rfl (size64' _)) rfl ?_
  exact ⟨by rw [HE.out];rfl, HB.out⟩
 ·by_cases h0 : at_ < 0
  ·omega
  go_enter Tryd.func93, Tryd.ntmps93
  go_wp2_with (first|((with_reducible refine gate_dst (N := 6) rfl ?_);refine ev_alloc HB rfl (blkA fun _ => 0) 85 ?hr ?_;(case hr => (rw [← blkA_zero];go_simp;rfl));intro g0 w1 G_g0 GE_g0 B_g0 HBn K_g0;clear HB;have HB := HBn;clear HBn)|(go_at_call 112;refine (block_filled.calls pad _).mono ?_;rintro e w2 ⟨rfl, hb2⟩;have B2 := B_g0.below hb2;have HB2 := HB.step hb2;clear HB;have HB := HB2;clear HB2 hb2)|((with_reducible refine gate_ (Op.store 85 (.tmp 6) (.tmp 19)) rfl ?_);refine ev_store HB B2 GE_g0 rfl 85 _ _ rfl rfl rfl (size64' _) (by rw [blkA_size, blkA_size]) (blkA_one _) ?_;intro w3 B3 HBn K_w3;clear HB;have HB := HBn;clear HBn))
  refine bodyPost_ret (results_row_tmp rfl _ _ g0 85 _ _ rfl B3 Tryd.underlying85 rfl (size64' _)) rfl ?_
  exact ⟨by rw [HE.out];rfl, HB.out⟩
open Go.Proofs.YtgddljealeklkaaDoorQ Go.Proofs.YtgddljealeklkaaDoorM in
set_option maxHeartbeats 4000000 in
set_option maxRecDepth 100000 in
theorem block_Cut.calls_full (s : ByteArray) (at_ pad : Int) (w : World) (hs : s.size ≤ 281474976702464) (h0 : 0 ≤ at_) (h1 : at_ + 64 ≤ s.size) :
    Calls Tryd.prog 93 #[.string s, .int .i64 at_, .int .u8 pad] w fun e w' => e = .returned (.tuple #[.agg (blkA (cutF s at_ pad)), .int .i64 64]) ∧ Below w.heap.size w w' := by
  obtain ⟨n, rfl⟩ : ∃ n : Nat, at_ = n := ⟨at_.toNat, by omega⟩
  have HB := BelowH.refl w
  have d1 : ¬ ((n : Int) < 0) := by omega
  have d2 : ¬ ((s.size : Int) ≤ n) := by omega
  have d3 : (64 : Int) ≤ (s.size : Int) - n := by omega
  have H1 := zA h1
  have EX := zA (show ∀ j : Nat, j < 64 → bt (s.extract n (n + 64)) (j : Int) = cutF s n pad j by
    intro j hj
    unfold cutF
    rw [if_pos (by omega), bt_extract s n (n + 64) j (by omega) (by omega)]
    norm_cast)
  have EZ : (s.extract n (n + 64)).size = 64 := by rw [ByteArray.size_extract];omega
  have HZ := zA EZ
  clear EZ
  go_enter Tryd.func93, Tryd.ntmps93
  go_wp2_with (first
    | ((with_reducible refine gate_dst (N := 6) rfl ?_);refine ev_alloc HB rfl (blkA fun _ => 0) 85 ?hr ?_;(case hr => (rw [← blkA_zero];go_simp;rfl));intro g0 w1 G_g0 GE_g0 B_g0 HBn K_g0;clear HB;have HB := HBn;clear HBn)
    | ((with_reducible refine gate_dst (N := 30) rfl ?_);refine ev_bytes HB rfl 9 37 _ rfl _ 64 HZ.out rfl Tryd.underlying9 Tryd.underlying37 Tryd.underlying5 ?_;intro g2 cap w2 G_g2 HBn K_g2 C2;clear HB;have HB := HBn;clear HBn)
    | ((with_reducible refine gate_dst (N := 31) rfl ?_);refine ev_arrayAt rfl 85 _ rfl ⟨g2, 0, none⟩ 64 cap 64 5 rfl Tryd.underlying85 (Nat.le_refl _) ?_)
    | ((with_reducible refine gate_dst (N := 32) rfl ?_);refine ev_load_mid rfl 85 _ rfl g2 0 rfl (blkA (cutF s n pad)) (fun j hj => by rw [blkA_size] at hj;rw [Nat.zero_add, C2.out j hj, blkA_get _ hj, EX.out j hj]) Tryd.underlying85 (size64' _) ?_;have B2 := B_g0.below K_g2.out)
    | ((with_reducible refine gate_ (Op.store 85 (.tmp 6) (.tmp 32)) rfl ?_);refine ev_store HB B2 GE_g0 rfl 85 _ _ rfl rfl rfl (size64' _) (by rw [blkA_size, blkA_size]) (blkA_one _) ?_;intro w3 B3 HBn K_w3;clear HB;have HB := HBn;clear HBn))
  refine bodyPost_ret (results_row_tmp rfl _ _ g0 85 _ _ rfl B3 Tryd.underlying85 rfl (size64' _)) rfl ?_
  exact ⟨rfl, HB.out⟩
open Go.Proofs.YtgddljealeklkaaDoorQ Go.Proofs.YtgddljealeklkaaDoorM in
set_option maxHeartbeats 4000000 in
set_option maxRecDepth 100000 in
theorem block_Cut.calls_part (s : ByteArray) (at_ pad : Int) (w : World) (hs : s.size ≤ 281474976702464) (h0 : 0 ≤ at_) (h1 : at_ < s.size) (h2 : s.size < at_ + 64) :
  Calls Tryd.prog 93 #[.string s, .int .i64 at_, .int .u8 pad] w fun e w' => e = .returned (.tuple #[.agg (blkA (cutF s at_ pad)), .int .i64 (s.size - at_)]) ∧ Below w.heap.size w w' := by
 obtain ⟨n, rfl⟩ : ∃ n : Nat, at_ = n := ⟨at_.toNat, by omega⟩
 have HB := BelowH.refl w
 have d1 : ¬ ((n : Int) < 0) := by omega
 have d2 : ¬ ((s.size : Int) ≤ n) := by omega
 have d3 : ¬ ((64 : Int) ≤ (s.size : Int) - n) := by omega
 have d4 : (n : Int) ≤ s.size := by omega
 have d5 : n ≤ s.size := by omega
 go_enter Tryd.func93, Tryd.ntmps93
 go_wp2_with (first
  | ((with_reducible refine gate_dst (N := 6) rfl ?_);refine ev_alloc HB rfl (blkA fun _ => 0) 85 ?hr ?_;(case hr => (rw [← blkA_zero];go_simp;rfl));intro g0 w1 G_g0 GE_g0 B_g0 HBn K_g0;clear HB;have HB := HBn;clear HBn)
  | (go_at_call 112;refine (block_filled.calls pad _).mono ?_;rintro e w2 ⟨rfl, hb2⟩;have B2 := B_g0.below hb2;have HB2 := HB.step hb2;clear HB;have HB := HB2;clear HB2 hb2)
  | ((with_reducible refine gate_dst (N := 8) rfl ?_);refine ev_alloc HB rfl (blkA fun _ => 0) 85 ?hr ?_;(case hr => (rw [← blkA_zero];go_simp;rfl));intro g8 w3 G_g8 GE_g8 B_g8 HBn K_g8;clear HB;have HB := HBn;clear HBn)
  | ((with_reducible refine gate_ (Op.store 85 (.tmp 8) (.tmp 34)) rfl ?_);refine ev_store HB B_g8 GE_g8 rfl 85 _ _ rfl rfl rfl (size64' _) (by rw [blkA_size, blkA_size]) (blkA_one _) ?_;intro w4 B8 HBn K_w4;clear HB;have HB := HBn;clear HBn))
 have NE := zA (show g0 ≠ g8 by have := B2.lt;have := G_g8.out;omega)
 go_still_tail 4, (by kernel_rfl)
 change wpList _ _ _ _ _ w4.drew
 have B8' := B8.drew
 have HB' := HB.drew
 have B0 := (((B2.below K_g8.out).other K_w4 NE.out).drew)
 have EZ := zA (show (s.extract n s.size).size = s.size - n by rw [ByteArray.size_extract];omega)
 clear HB
 go_wp2_with (first
  | ((with_reducible refine gate_dst (N := 39) rfl ?_);refine ev_copy64 HB' B8' GE_g8 rfl _ _ 37 9 5 rfl _ (s.size - n) EZ.out (by omega) rfl rfl Tryd.underlying37 (by kernel_rfl) ?_;intro w5 B9 HB K_w5)
  | ((with_reducible refine gate_dst (N := 40) rfl ?_);refine ev_load B9 rfl 85 _ rfl rfl Tryd.underlying85 (size64' _) ?_)
  | ((with_reducible refine gate_ (Op.store 85 (.tmp 6) (.tmp 40)) rfl ?_);have B1 := B0.other K_w5 NE.out;refine ev_store HB B1 GE_g0 rfl 85 _ _ rfl rfl rfl (size64' _) (by rw [blkA_size, blkA_size]) (blkA_one _) ?_;intro w6 B6 HBn K_w6;clear HB;have HB := HBn;clear HBn))
 have E : (blkA fun j => if j < s.size - n then bt (s.extract n s.size) (j : Int) else pad) = blkA (cutF s n pad) := blkA_congr fun j hj => by
  unfold cutF
  by_cases h : j < s.size - n
  ·rw [if_pos h, if_pos (by omega), bt_extract s n s.size j (by omega) (by omega)]
   norm_cast
  ·rw [if_neg h, if_neg (by omega)]
 refine bodyPost_ret (results_row_tmp rfl _ _ g0 85 _ _ rfl B6 Tryd.underlying85 rfl (size64' _)) rfl ?_
 refine ⟨?_, HB.out⟩
 rw [E, show (s.size : Int) - n = ((s.size - n : Nat) : Int) by omega]
 rfl
open Go.Proofs.YtgddljealeklkaaDoorQ Go.Proofs.YtgddljealeklkaaDoorM in
theorem block_Cut.calls (s : ByteArray) (at_ pad : Int) (w : World) (hs : s.size ≤ 281474976702464) :
  Calls Tryd.prog 93 #[.string s, .int .i64 at_, .int .u8 pad] w fun e w' => e = .returned (.tuple #[.agg (blkA (cutF s at_ pad)), .int .i64 (cutN s at_)]) ∧ Below w.heap.size w w' := by
 unfold cutN
 by_cases h : at_ < 0 ∨ (s.size : Int) ≤ at_
 ·rw [if_pos h]
  exact block_Cut.calls_out s at_ pad w h
 ·rw [if_neg h]
  by_cases h2 : 64 ≤ (s.size : Int) - at_
  ·rw [if_pos h2]
   exact block_Cut.calls_full s at_ pad w hs (by omega) (by omega)
  ·rw [if_neg h2]
   exact block_Cut.calls_part s at_ pad w hs (by omega) (by omega) (by omega)


section
open Go.Proofs.YtgddljealeklkaaDoorQ Go.Proofs.YtgddljealeklkaaDoorM Go.Shelf
attribute [local go_sem] Oper.semAt_some
def blkEnc (s : ByteArray) (pad : Int) (k : Nat) : Array Value := #[.int .i64 (64 * (k : Int)), .agg (blkA (cutF s (64 * (k : Int)) pad))]
set_option maxHeartbeats 4000000 in
set_option maxRecDepth 100000 in
theorem block_Blocks_1.walk (F : Fence) (HF : Aside0 (F = Fence.wide)) (n : Nat) (hn : 3 ≤ n) (l g1 g2 : Nat) (s : ByteArray) (pad : Int) (hs : s.size ≤ 281474976702464) (J Jx : List (Fin (nwords s.size)) → World → Prop) (W0 : World)
  (hJ : ∀ pre A B, J pre A → Below A.heap.size A B → J pre B)
  (hY : ∀ pre x W, J pre W → pre.length < nwords s.size → YieldAt F (n - 1) Tryd.prog l (blkEnc s pad x.val) W fun e W' =>
   (e = .returned (.bool true) ∧ J (pre ++ [x]) W' ∧ Keep2 g1 g2 W W') ∨ (e = .returned (.bool false) ∧ Jx (pre ++ [x]) W'))
  (B1 : Blk W0 g1 #[.string s] 9) (B2 : Blk W0 g2 #[.int .u8 pad] 5) (h0 : J [] W0) :
  CallsIn F n Tryd.prog 92 #[.func (.yield l) #[] #[], .pointer (some ⟨g1, 0, none⟩), .pointer (some ⟨g2, 0, none⟩)] W0 fun e W' => (∃ v, e = .returned v) ∧
   ((∃ ys, ys = List.finRange (nwords s.size) ∧ J ys W') ∨ (∃ pre, pre <+: List.finRange (nwords s.size) ∧ Jx pre W')) := by
 have HJ := zA hJ
 have HY := zA hY
 have HJ0 := zA h0
 clear hJ hY h0
 have f0 := wide_fn HF 93
 have n1 : 1 ≤ n := by omega
 have n2 : 1 ≤ n - 1 := by omega
 have hro := wide_round HF
 refine callsIn_of_wp Tryd.func92 rfl (wide_fn HF _) ?_ (wide_round HF)
 simp only [Tryd.ntmps92, List.size_toArray, List.length_cons, List.length_nil, Nat.reduceAdd, Nat.reduceSub, Array.replicate_succ, Array.replicate_zero, List.push_toArray, List.append_toArray, List.nil_append, List.cons_append]
 gi_wp2
 gi_loopw [4] (fun v wr => ∃ k : Nat, v = .int .i64 (64 * (k : Int)) ∧ Aside0 (k ≤ nwords s.size) ∧ Aside0 (J ((List.finRange (nwords s.size)).take k) wr) ∧ Blk wr g1 #[.string s] 9 ∧ Blk wr g2 #[.int .u8 pad] 5) (fun v _ => 64 * nwords s.size - (intOf v).toNat)
 case atStart => exact ⟨0, rfl, ⟨Nat.zero_le _⟩, HJ0, B1, B2⟩
 case round =>
  clear B1 B2 HJ0
  obtain ⟨k, rfl, HK, HJk, B1, B2⟩ := hrel
  have c1 := B1.cell (i := 0) rfl
  have c2 := B2.cell (i := 0) rfl
  have HB := BelowH.refl wr
  by_cases hlt : 64 * (k : Int) < s.size
  ·have K1 : Aside0 (64 * (k : Int) < s.size) := ⟨hlt⟩
   have KN : Aside0 (k < nwords s.size) := ⟨by unfold nwords;omega⟩
   have KT := zA (finRange_take (nwords s.size) k KN.out)
   gi_wp2_with (first
    | (gi_at_call 93;refine (callsIn_of HF (block_Cut.calls s (64 * (k : Int)) pad _ hs)).mono ?_;rintro e w3 ⟨rfl, hb3⟩;have D1 := B1.below hb3;have D2 := B2.below hb3;have HB3 := HB.step hb3;clear hb3)
    | ((with_reducible refine gate_dstIn (N := 5) rfl ?_);refine ev_allocIn HB3 rfl rfl (blkA fun _ => 0) 85 ?hr ?_;(case hr => (rw [← blkA_zero];go_simp;rfl));intro g5 w4 G_g5 GE_g5 B_g5 HB4 K_g5 KO5;have E1 := D1.below K_g5.out;have E2 := D2.below K_g5.out)
    | ((with_reducible refine gate_In (Op.store 85 (.tmp 5) (.tmp 18)) rfl ?_);refine ev_storeIn HB4 B_g5 GE_g5 rfl 85 _ _ rfl rfl rfl (size64' _) (by rw [blkA_size, blkA_size]) (blkA_one _) ?_;intro w5 B5 HB5 K_w5 KO_w5;have N1 := zA (show g1 ≠ g5 by have := D1.lt;have := G_g5.out;omega);have N2 := zA (show g2 ≠ g5 by have := D2.lt;have := G_g5.out;omega);have F1 := E1.other K_w5 N1.out;have F2 := E2.other K_w5 N2.out)
    | ((with_reducible refine gate_dstIn (N := 22) rfl ?_);refine ev_loadIn B5 rfl 85 _ rfl rfl Tryd.underlying85 (size64' _) ?_;have HJ5 := zA (HJ.out _ _ _ HJk.out HB5.out);obtain ⟨fn, tmps, assign, body, hy, hR⟩ := HY.out ((List.finRange (nwords s.size)).take k) ⟨k, KN.out⟩ _ HJ5.out (by rw [List.length_take, List.length_finRange];have := KN.out;omega);have HR := zA hR;clear hR;dsimp only [blkEnc] at hy))
   refine HR.out.mono ?_
   rintro e W6 (⟨rfl, hJ6, hk6⟩ | ⟨rfl, hJx6⟩)
   ·have G1 : Blk W6 g1 #[.string s] 9 := ⟨hk6.1.trans F1.out⟩
    have G2 : Blk W6 g2 #[.int .u8 pad] 5 := ⟨hk6.2.1.trans F2.out⟩
    have HJ6 := zA (show J ((List.finRange (nwords s.size)).take (k + 1)) W6 by rw [KT.out];exact hJ6)
    clear hJ6 hk6
    gi_wp2
    go_roundw
    case rel => exact ⟨k + 1, by simp;omega, ⟨by unfold nwords;have := K1.out;omega⟩, HJ6, G1, G2⟩
    case measure => simp [intOf, nwords];have := K1.out;omega
   ·have HJ6 := zA hJx6
    clear hJx6
    gi_wp2
    refine bodyPost_ret (results_none rfl _ _ _) rfl ?_
    refine ⟨⟨_, rfl⟩, .inr ⟨_, ?_, HJ6.out⟩⟩
    rw [← KT.out]
    exact List.take_prefix _ _
  ·have EK : k = nwords s.size := by
    have h1 := HK.out
    unfold nwords at *
    omega
   have HE := zA EK
   clear EK
   gi_wp2
   go_end0
   have h := HJk.out
   rw [HE.out, List.take_of_length_le (by rw [List.length_finRange];exact Nat.le_refl _)] at h
   exact ⟨⟨_, rfl⟩, .inl h⟩
theorem block_Blocks_1.stops (F : Fence) (HF : Aside0 (F = Fence.wide)) (n : Nat) (hn : 3 ≤ n) (g1 g2 : Nat) (s : ByteArray) (pad : Int) (hs : s.size ≤ 281474976702464) (w : World)
  (B1 : Blk w g1 #[.string s] 9) (B2 : Blk w g2 #[.int .u8 pad] 5) :
  SeqStopsK F n Tryd.prog 92 #[.pointer (some ⟨g1, 0, none⟩), .pointer (some ⟨g2, 0, none⟩)] (fun x : Fin (nwords s.size) => blkEnc s pad x.val) (Keep2 g1 g2) (fun ys => ys = List.finRange (nwords s.size)) (fun pre => pre <+: List.finRange (nwords s.size)) (nwords s.size) w := by
 intro l J Jx W hW hJ _ hY h0
 exact block_Blocks_1.walk F HF n hn l g1 g2 s pad hs J Jx W
  (fun pre A B hA hb => hJ pre A B none hA ⟨hb.os, hb.tape, hb.output, hb.size, fun k hk _ => hb.block k hk⟩ (fun r e => by cases e))
  hY (B1.below hW) (B2.below hW) h0
end


open Go.Proofs.YtgddljealeklkaaDoorQ Go.Proofs.YtgddljealeklkaaDoorM in
set_option maxHeartbeats 4000000 in
set_option maxRecDepth 100000 in
theorem block_Blocks.calls (s : ByteArray) (pad : Int) (w : World) :
  Calls Tryd.prog 55 #[.string s, .int .u8 pad] w fun e w' => ∃ g1 g2 : Nat, e = .returned (.func (.func 92) #[] #[.pointer (some ⟨g1, 0, none⟩), .pointer (some ⟨g2, 0, none⟩)]) ∧
   w.heap.size ≤ g1 ∧ w.heap.size ≤ g2 ∧ Blk w' g1 #[.string s] 9 ∧ Blk w' g2 #[.int .u8 pad] 5 ∧ BelowH w w' := by
 have HB := BelowH.refl w
 go_enter Tryd.func55, Tryd.ntmps55
 go_wp2_with (first|((with_reducible refine gate_dst (N := 2) rfl ?_);refine ev_alloc HB rfl (#[.string s]) 9 ?hr ?_;(case hr => first|(go_simp;done)|(go_simp;rfl));intro g1 w1 G_g1 GE_g1 B_g1 HBn K_g1;clear HB;have HB := HBn;clear HBn)|((with_reducible refine gate_dst (N := 3) rfl ?_);refine ev_alloc HB rfl (#[.int .u8 pad]) 5 ?hr ?_;(case hr => first|(go_simp;done)|(go_simp;rfl));intro g2 w2 G_g2 GE_g2 B_g2 HBn K_g2;clear HB;have HB := HBn;clear HBn))
 go_ret
 exact ⟨g1, g2, rfl, GE_g1.out, GE_g2.out, B_g1.below K_g2.out, B_g2, HB⟩


open Go.Proofs.YtgddljealeklkaaDoorQ Go.Proofs.YtgddljealeklkaaDoorM in
set_option maxHeartbeats 4000000 in
set_option maxRecDepth 100000 in
theorem lanes_Load.calls (f : Nat → Int) (hf : ∀ i, 0 ≤ f i ∧ f i < 256) (w : World) :
  Calls Tryd.prog 94 #[.agg (arrA 8 f)] w fun e w' => e = .returned (.int .u64 (loadN f 8 : Nat)) ∧ Below w.heap.size w w' := by
 have HB := BelowH.refl w
 have HF := zA fun i => hf i
 clear hf
 go_enter Tryd.func94, Tryd.ntmps94
 go_wp2_with (first
  | ((with_reducible refine gate_dst (N := 1) rfl ?_);refine ev_alloc HB rfl (arrA 8 f) 122 ?hr ?_;(case hr => first|(go_simp;done)|(go_simp;rfl));intro g1 w1 G_g1 GE_g1 B_g1 HBn K_g1;clear HB;have HB := HBn;clear HBn))
 go_loopw [3, 6] (fun v3 v6 wr => ∃ i : Nat, i ≤ 8 ∧ v6 = .int .i64 i ∧ v3 = .int .u64 (loadN f i : Nat) ∧ Blk wr g1 (arrA 8 f) 122 ∧ BelowH w wr) (fun _ v6 _ => 8 - (intOf v6).toNat)
 case atStart => exact ⟨0, by omega, rfl, rfl, B_g1, HB⟩
 case round =>
  clear B_g1 HB
  obtain ⟨i, hi, rfl, rfl, B1, HB⟩ := hrel
  by_cases hlt : i < 8
  ·have hc := B1.cell (arrA_get 8 f hlt)
   have h1 : (i : Int) < 8 := by omega
   go_wp2
   go_quiet (fail)
   go_wp2
   go_roundw
   case rel =>
    refine ⟨i + 1, by omega, by go_num, ?_, B1.drewN _, HB.drewN _⟩
    rw [load_step f HF.out hlt]
   case measure => simp [intOf];omega
  ·go_wp2
   go_ret
   obtain rfl : i = 8 := by omega
   exact ⟨rfl, HB.out⟩


def lanes_Fill.f (a0 : Int) : Option (Int) := some (IntKind.u64.wrap (72340172838076673 * (IntKind.u64.wrap (a0))))
set_option maxHeartbeats 8000000 in
set_option maxRecDepth 100000 in
theorem lanes_Fill.calls (a0 : Int) (r : Int) (w : World) (h : lanes_Fill.f a0 = some r) :
  Calls Tryd.prog 113 #[.int .u8 a0] w fun e w' => e = .returned (.int .u64 r) ∧ Drawn0 w w' := by
 have H : (some (IntKind.u64.wrap (72340172838076673 * (IntKind.u64.wrap (a0))))) = some r := h
 clear h
 obtain rfl := Option.some.inj H
 go_enter Tryd.func113, Tryd.ntmps113
 go_wp2
 go_ret
 exact ⟨by first|rfl|(simp;done)|(simp [*];done), by repeat (first|exact Drawn0.refl _|apply Drawn0.step)⟩

def lanes_tops.f (a0 : Int) : Option (Int) := some (((IntKind.u64.wrap (((Go.bits .and .u64 a0 9259542123273814144) / 128) * 72624976668147840)) / 72057594037927936) % 256)
set_option maxHeartbeats 8000000 in
set_option maxRecDepth 100000 in
theorem lanes_tops.calls (a0 : Int) (r : Int) (w : World) (h : lanes_tops.f a0 = some r) :
  Calls Tryd.prog 114 #[.int .u64 a0] w fun e w' => e = .returned (.int .u8 r) ∧ Drawn0 w w' := by
 have H : (some (((IntKind.u64.wrap (((Go.bits .and .u64 a0 9259542123273814144) / 128) * 72624976668147840)) / 72057594037927936) % 256)) = some r := h
 clear h
 obtain rfl := Option.some.inj H
 go_enter Tryd.func114, Tryd.ntmps114
 go_wp2
 go_ret
 exact ⟨by first|rfl|(simp;done)|(simp [*];done), by repeat (first|exact Drawn0.refl _|apply Drawn0.step)⟩

open Go.Proofs.YtgddljealeklkaaDoorQ Go.Proofs.YtgddljealeklkaaDoorM in
set_option maxHeartbeats 4000000 in
set_option maxRecDepth 100000 in
theorem lanes_Equal.calls (f : Nat → Int) (hf : ∀ i, 0 ≤ f i ∧ f i < 256) (c : Int) (h0 : 0 ≤ c) (h1 : c < 256) (w : World) :
  Calls Tryd.prog 95 #[.int .u64 (loadN f 8 : Nat), .int .u8 c] w fun e w' => e = .returned (.int .u8 (wordN (fun j => decide (f j = c)) 8 : Nat)) ∧ Drawn0 w w' := by
 have E := zA (equal_lanes f hf c h0 h1)
 clear hf h0 h1
 obtain ⟨x, hx⟩ : ∃ x : Int, x = ((loadN f 8 : Nat) : Int) := ⟨_, rfl⟩
 rw [← hx] at E ⊢
 clear hx
 go_enter Tryd.func95, Tryd.ntmps95
 go_wp2_with (first
  | (go_at_call 113;refine (lanes_Fill.calls c _ _ rfl).mono ?_;rintro e w' ⟨rfl, ⟨nd, rfl⟩⟩)
  | (go_at_call 114;refine (lanes_tops.calls _ _ _ rfl).mono ?_;rintro e w' ⟨rfl, ⟨nd2, rfl⟩⟩))
 go_ret
 refine ⟨?_, ?_⟩
 ·rw [← E.out];rfl
 ·repeat (first|exact Drawn0.refl _|apply Drawn0.step)


open Go.Proofs.YtgddljealeklkaaDoorQ Go.Proofs.YtgddljealeklkaaDoorM in
theorem size8' (f : Nat → Int) : (Tryd.prog.info? 122).map (·.size) = some (arrA 8 f).size := by
 rw [arrA_size]
 kernel_rfl
open Go.Proofs.YtgddljealeklkaaDoorQ Go.Proofs.YtgddljealeklkaaDoorM in
set_option maxHeartbeats 4000000 in
set_option maxRecDepth 100000 in
theorem block_Equal.calls (f : Nat → Int) (hf : ∀ i, 0 ≤ f i ∧ f i < 256) (c : Int) (h0 : 0 ≤ c) (h1 : c < 256) (w : World) :
  Calls Tryd.prog 56 #[.agg (blkA f), .int .u8 c] w fun e w' => e = .returned (.int .u64 (iv (word fun j => decide (f j = c)))) ∧ Below w.heap.size w w' := by
 have HB := BelowH.refl w
 have HF := zA fun i => hf i
 have H0 := zA h0
 have H1 := zA h1
 clear hf h0 h1
 go_enter Tryd.func56, Tryd.ntmps56
 go_wp2_with (first|((with_reducible refine gate_dst (N := 2) rfl ?_);refine ev_alloc HB rfl (blkA f) 85 ?hr ?_;(case hr => first|(go_simp;done)|(go_simp;rfl));intro g1 w1 G_g1 GE_g1 B_g1 HBn K_g1;clear HB;have HB := HBn;clear HBn))
 go_loopw [5, 6] (fun v5 v6 wr => ∃ i : Nat, i ≤ 8 ∧ v6 = .int .i64 (8 * (i : Int)) ∧ v5 = .int .u64 (wordN (fun j => decide (f j = c)) (8 * i) : Nat) ∧ Blk wr g1 (blkA f) 85 ∧ BelowH w wr) (fun _ v6 _ => 64 - (intOf v6).toNat)
 case atStart => exact ⟨0, by omega, rfl, rfl, B_g1, HB⟩
 case round =>
  clear B_g1 HB
  obtain ⟨i, hi, rfl, rfl, B1, HB⟩ := hrel
  by_cases hlt : i < 8
  ·have k1 : 8 * (i : Int) < 64 := by omega
   have KI := zA hlt
   have K2 : Aside0 (∀ j, j < 8 → (blkA f)[8 * i + j]? = some (.int .u8 (f (8 * i + j)))) := ⟨fun j hj => blkA_get f (by omega)⟩
   have K3 : Aside0 (∀ j, 0 ≤ f (8 * i + j) ∧ f (8 * i + j) < 256) := ⟨fun j => HF.out _⟩
   go_wp2_with (first
    | ((with_reducible refine gate_dst (N := 15) rfl ?_);refine ev_sliceArr rfl 85 _ _ _ rfl g1 (8 * i) (8 * i + 8) 64 _ _ 5 rfl rfl rfl (by omega) (by omega) Tryd.underlying85 (by kernel_rfl) (by omega) (by omega) (by omega) ?_)
    | ((with_reducible refine gate_dst (N := 16) rfl ?_);refine ev_arrayAt rfl 122 _ rfl ⟨g1, 8 * i, none⟩ _ _ 8 5 rfl Tryd.underlying122 (by omega) ?_)
    | ((with_reducible refine gate_dst (N := 17) rfl ?_);refine ev_load_mid rfl 122 _ rfl g1 (8 * i) rfl (arrA 8 fun j => f (8 * i + j)) (fun j hj => by rw [arrA_size] at hj;rw [zP B1.out, K2.out j hj, arrA_get 8 _ hj]) Tryd.underlying122 (size8' _) ?_)
    | (go_at_call 94;refine (lanes_Load.calls _ K3.out _).mono ?_;rintro e w2 ⟨rfl, hb2⟩;have B2 := B1.below hb2;have HB2 := HB.step hb2;clear hb2)
    | (go_at_call 95;refine (lanes_Equal.calls _ K3.out c H0.out H1.out _).mono ?_;rintro e w3 ⟨rfl, ⟨nd, rfl⟩⟩))
   go_roundw
   case rel =>
    refine ⟨i + 1, by omega, by simp;omega, ?_, B2.drewN _, HB2.drewN _⟩
    rw [← eight_step _ KI.out]
   case measure => simp [intOf];omega
  ·obtain rfl : i = 8 := by omega
   go_wp2
   go_ret
   exact ⟨by rw [iv_word];rfl, HB.out⟩


def words_Escaped.f (a0 : Int) (a1 : Bool) : Option (Int × Bool) := if a1 = true then (some (Go.bits .xor .u64 (Go.bits .xor .u64 (IntKind.u64.wrap ((Go.bits .or .u64 (IntKind.u64.wrap ((Go.bits .andNot .u64 a0 1) * 2)) 12297829382473034410) - (Go.bits .andNot .u64 a0 1))) 12297829382473034410) (Go.bits .or .u64 a0 1), (((Go.bits .and .u64 (Go.bits .xor .u64 (IntKind.u64.wrap ((Go.bits .or .u64 (IntKind.u64.wrap ((Go.bits .andNot .u64 a0 1) * 2)) 12297829382473034410) - (Go.bits .andNot .u64 a0 1))) 12297829382473034410) a0) / 9223372036854775808) != 0))) else (some (Go.bits .xor .u64 (Go.bits .xor .u64 (IntKind.u64.wrap ((Go.bits .or .u64 (IntKind.u64.wrap ((Go.bits .andNot .u64 a0 0) * 2)) 12297829382473034410) - (Go.bits .andNot .u64 a0 0))) 12297829382473034410) (Go.bits .or .u64 a0 0), (((Go.bits .and .u64 (Go.bits .xor .u64 (IntKind.u64.wrap ((Go.bits .or .u64 (IntKind.u64.wrap ((Go.bits .andNot .u64 a0 0) * 2)) 12297829382473034410) - (Go.bits .andNot .u64 a0 0))) 12297829382473034410) a0) / 9223372036854775808) != 0)))
set_option maxHeartbeats 8000000 in
set_option maxRecDepth 100000 in
theorem words_Escaped.calls (a0 : Int) (a1 : Bool) (r1 : Int) (r2 : Bool) (w : World) (h : words_Escaped.f a0 a1 = some (r1, r2)) :
  Calls Tryd.prog 91 #[.int .u64 a0, .bool a1] w fun e w' => e = .returned (.tuple #[.int .u64 r1, .bool r2]) ∧ Drawn0 w w' := by
 have H : (if a1 = true then (some (Go.bits .xor .u64 (Go.bits .xor .u64 (IntKind.u64.wrap ((Go.bits .or .u64 (IntKind.u64.wrap ((Go.bits .andNot .u64 a0 1) * 2)) 12297829382473034410) - (Go.bits .andNot .u64 a0 1))) 12297829382473034410) (Go.bits .or .u64 a0 1), (((Go.bits .and .u64 (Go.bits .xor .u64 (IntKind.u64.wrap ((Go.bits .or .u64 (IntKind.u64.wrap ((Go.bits .andNot .u64 a0 1) * 2)) 12297829382473034410) - (Go.bits .andNot .u64 a0 1))) 12297829382473034410) a0) / 9223372036854775808) != 0))) else (some (Go.bits .xor .u64 (Go.bits .xor .u64 (IntKind.u64.wrap ((Go.bits .or .u64 (IntKind.u64.wrap ((Go.bits .andNot .u64 a0 0) * 2)) 12297829382473034410) - (Go.bits .andNot .u64 a0 0))) 12297829382473034410) (Go.bits .or .u64 a0 0), (((Go.bits .and .u64 (Go.bits .xor .u64 (IntKind.u64.wrap ((Go.bits .or .u64 (IntKind.u64.wrap ((Go.bits .andNot .u64 a0 0) * 2)) 12297829382473034410) - (Go.bits .andNot .u64 a0 0))) 12297829382473034410) a0) / 9223372036854775808) != 0)))) = some (r1, r2) := h
 clear h
 by_cases c3 : a1 = true
 ·subst c3
  have H1 : (some (Go.bits .xor .u64 (Go.bits .xor .u64 (IntKind.u64.wrap ((Go.bits .or .u64 (IntKind.u64.wrap ((Go.bits .andNot .u64 a0 1) * 2)) 12297829382473034410) - (Go.bits .andNot .u64 a0 1))) 12297829382473034410) (Go.bits .or .u64 a0 1), (((Go.bits .and .u64 (Go.bits .xor .u64 (IntKind.u64.wrap ((Go.bits .or .u64 (IntKind.u64.wrap ((Go.bits .andNot .u64 a0 1) * 2)) 12297829382473034410) - (Go.bits .andNot .u64 a0 1))) 12297829382473034410) a0) / 9223372036854775808) != 0))) = some (r1, r2) := by rw [if_pos rfl] at H;exact H
  clear H
  have H := H1
  clear H1
  simp only [Option.some.injEq, Prod.mk.injEq] at H
  obtain ⟨rfl, rfl⟩ := H
  go_enter Tryd.func91, Tryd.ntmps91
  go_wp2
  go_ret2
  exact ⟨by first|rfl|(simp;done)|(simp [*];done), by repeat (first|exact Drawn0.refl _|apply Drawn0.step)⟩
 ·replace c3 := Bool.eq_false_iff.mpr c3
  subst c3
  have H1 : (some (Go.bits .xor .u64 (Go.bits .xor .u64 (IntKind.u64.wrap ((Go.bits .or .u64 (IntKind.u64.wrap ((Go.bits .andNot .u64 a0 0) * 2)) 12297829382473034410) - (Go.bits .andNot .u64 a0 0))) 12297829382473034410) (Go.bits .or .u64 a0 0), (((Go.bits .and .u64 (Go.bits .xor .u64 (IntKind.u64.wrap ((Go.bits .or .u64 (IntKind.u64.wrap ((Go.bits .andNot .u64 a0 0) * 2)) 12297829382473034410) - (Go.bits .andNot .u64 a0 0))) 12297829382473034410) a0) / 9223372036854775808) != 0))) = some (r1, r2) := by rw [if_neg (show ¬ (false = true) by decide)] at H;exact H
  clear H
  have H := H1
  clear H1
  simp only [Option.some.injEq, Prod.mk.injEq] at H
  obtain ⟨rfl, rfl⟩ := H
  go_enter Tryd.func91, Tryd.ntmps91
  go_wp2
  go_ret2
  exact ⟨by first|rfl|(simp;done)|(simp [*];done), by repeat (first|exact Drawn0.refl _|apply Drawn0.step)⟩

section
open Go.Proofs.YtgddljealeklkaaDoorQ Go.Proofs.YtgddljealeklkaaDoorM Go.Shelf
theorem words_Escaped.tells (q : Nat → Bool) (c : Bool) : words_Escaped.f (iv (word q)) c = some (iv (word (escW q c)), escW q c 64) := by
 have e1 : (12297829382473034410 : Int) = iv oddsW := by decide
 have e2 : (1 : Int) = iv 1#64 := by decide
 have e3 : (0 : Int) = iv 0#64 := by decide
 have e4 : ∀ v : BitVec 64, iv v / (9223372036854775808 : Int) = iv (v >>> 63) := fun v => shr_iv v 63
 have e5 : ∀ v : BitVec 64, IntKind.u64.wrap (iv v * 2) = iv (v <<< 1) := fun v => wrap_shl v 1
 have e6 : ∀ v w : BitVec 64, (iv v != iv w) = (v != w) := fun v w => by
  rw [Bool.eq_iff_iff, bne_iff_ne, bne_iff_ne, ne_eq, ne_eq, iv_inj]
 have h1 := escaped_word q c
 have h2 := escaped_carry q c
 unfold words_Escaped.f
 cases c
 ·simp only [Bool.false_eq_true, if_false] at h1 h2 ⊢
  rw [e1, e3, bits_andNot, e5, bits_or, wrap_sub, bits_xor, bits_or, bits_xor, bits_and, e4, e6, h1, h2]
 ·simp only [if_true] at h1 h2 ⊢
  rw [e1, e2, e3, bits_andNot, e5, bits_or, wrap_sub, bits_xor, bits_or, bits_xor, bits_and, e4, e6, h1, h2]

attribute [local go_sem] Oper.semAt_some
structure EscI (s : ByteArray) (w : World) (L : List (Nat × Array Value × Nat)) (m g3 g4 : Nat) {n : Nat} (pre : List (Fin n)) (W : World) : Prop where mk ::
 bs : Blks L W
 b4 : Blk W g4 #[.bool (foldE s pre).1] 4
 row : ∃ v, Blk W g3 #[.int .i64 s.size, v] 34 ∧ W.ownsRow w.heap.size 75 1 v pre.length ((foldE s pre).2.map (Value.int .u64))
 hb : BelowH w W
 sz : m ≤ W.heap.size
theorem EscI.kept {s : ByteArray} {w W W' : World} {L : List (Nat × Array Value × Nat)} {m g3 g4 n : Nat} {pre : List (Fin n)} (h : EscI s w L m g3 g4 pre W) {B : Nat} (hB : w.heap.size ≤ B) {row : Option Nat} (hg : W.grownBy W' row) (hr : ∀ r, row = some r → B ≤ r ∧ ∃ o : Obj, W.heap[r]? = some o ∧ o.isCells = false) : EscI s w L m g3 g4 pre W' := by
 have hr' : ∀ r, row = some r → ∃ o : Obj, W.heap[r]? = some o ∧ o.isCells = false := fun r e => (hr r e).2
 obtain ⟨v, b3, hrow⟩ := h.row
 exact ⟨h.bs.kept hg hr', h.b4.kept hg hr', ⟨v, b3.kept hg hr', row_kept hrow hg hr'⟩, h.hb.kept hg hB (fun r e => (hr r e).1), zz2 h.sz hg.size⟩
set_option maxHeartbeats 4000000 in
set_option maxRecDepth 100000 in
theorem escape_Escaped.walk (s : ByteArray) (w : World) (hs : s.size ≤ 281474976702464) :
  Calls Tryd.prog 54 #[.string s] w fun e w' => ∃ v1_ : Value, e = .returned (.agg #[.int .i64 s.size, v1_]) ∧ w'.ownsRow w.heap.size 75 1 v1_ (nwords s.size) ((wordsOf s.size (esc s false)).map (Value.int .u64)) ∧ Below w.heap.size w w' := by
 obtain ⟨F, hF⟩ : ∃ F, F = Fence.wide := ⟨_, rfl⟩
 have HF := zA hF
 refine (callsIn_wide (n := 9)).1 ?_
 rw [← hF]
 clear hF
 have hro := wide_round HF
 have HB := BelowH.refl w
 have f1 := wide_fn HF 55
 have f2 := wide_fn HF 92
 have f3 := wide_fn HF 56
 have f4 := wide_fn HF 91
 refine callsIn_of_wp_marks Tryd.func54 rfl (wide_fn HF _) ?_ hro
 simp only [Tryd.ntmps54, List.size_toArray, List.length_cons, List.length_nil, Nat.reduceAdd, Nat.reduceSub, Array.replicate_succ, Array.replicate_zero, List.push_toArray, List.append_toArray, List.nil_append, List.cons_append]
 gi_wp2_with (first
  | ((with_reducible refine gate_dstIn (N := 1) rfl ?_);refine ev_allocIn HB rfl rfl (#[.string s]) 9 ?hr ?_;(case hr => first|(go_simp;done)|(go_simp;rfl));intro g1 w1 G_g1 GE_g1 B_g1 HBn K_g1 KO_w1;clear HB;have HB := HBn;clear HBn)
  | ((with_reducible refine gate_dstIn (N := 2) rfl ?_);refine ev_allocIn HB rfl rfl (#[.int .i64 0, .slice none 0 0]) 34 ?hr ?_;(case hr => first|(go_simp;done)|(go_simp;rfl));intro g2 w2 G_g2 GE_g2 B_g2 HBn K_g2 KO_w2;clear HB;have HB := HBn;clear HBn))
 refine wpIn_scope HF ?_
 have c1 := (B_g1.below K_g2.out).cell (i := 0) rfl
 gi_wp2_with (first
  | ((with_reducible refine gate_dstIn (N := 3) rfl ?_);refine ev_allocIn HB rfl rfl (#[.int .i64 0, .slice none 0 0]) 34 ?hr ?_;(case hr => first|(go_simp;done)|(go_simp;rfl));intro g3 w3 G_g3 GE_g3 B_g3 HBn K_g3 KO_w3;clear HB;have HB := HBn;clear HBn)
  | ((with_reducible refine gate_In (Op.store 34 (.tmp 3) (.tmp 12)) rfl ?_);refine ev_storeIn HB B_g3 GE_g3 rfl 34 _ _ rfl rfl rfl (by kernel_rfl) rfl (by simp [Value.oneCell']) ?_;intro w4 B3 HBn K_w4 KO_w4;clear HB;have HB := HBn;clear HBn)
  | ((with_reducible refine gate_dstIn (N := 4) rfl ?_);refine ev_allocIn HB rfl rfl (#[.bool false]) 4 ?hr ?_;(case hr => first|(go_simp;done)|(go_simp;rfl));intro g4 w5 G_g4 GE_g4 B_g4 HBn K_g4 KO_w5;clear HB;have HB := HBn;clear HBn)
  | ((with_reducible refine gate_In (Op.store 4 (.tmp 4) (.const (.bool false))) rfl ?_);refine ev_store1In (i := 0) HB B_g4 GE_g4 rfl 4 _ _ rfl rfl (.bool false) rfl (by simp) (by kernel_rfl) rfl ?_;intro w6 B4 HBn K_w6 KO_w6;clear HB;have HB := HBn;clear HBn))
 refine wpIn_label ?_
 have N13 := zA (show g1 < g3 by have := B_g1.lt;have := G_g2.out;have := G_g3.out;have := B_g2.lt;omega)
 have N23 := zA (show g2 < g3 by have := G_g3.out;have := B_g2.lt;omega)
 have N34 := zA (show g3 < g4 by have := G_g4.out;have := B3.lt;omega)
 have B1 := ((((B_g1.below K_g2.out).below K_g3.out).other K_w4 (Nat.ne_of_lt N13.out)).below K_g4.out).other K_w6 (Nat.ne_of_lt (Nat.lt_trans N13.out N34.out))
 have B2 := (((B_g2.below K_g3.out).other K_w4 (Nat.ne_of_lt N23.out)).below K_g4.out).other K_w6 (Nat.ne_of_lt (Nat.lt_trans N23.out N34.out))
 have D3 := (B3.below K_g4.out).other K_w6 (Nat.ne_of_lt N34.out)
 clear c1 B_g1 B_g2 B_g3 B_g4 B3 K_g1 K_g2 K_g3 K_g4 K_w4 K_w6 KO_w1 KO_w2 KO_w3 KO_w4 KO_w5 KO_w6
 have c1 := B1.cell (i := 0) rfl
 gi_wp2_with (first
  | (gi_at_call 55;refine (callsIn_of HF (block_Blocks.calls s 32 _)).mono ?_;rintro e w7 ⟨h1, h2, rfl, GE1, GE2, A1, A2, HB7⟩))
 obtain ⟨L, hL⟩ : ∃ L : List (Nat × Array Value × Nat), L = [(g1, #[.string s], 9), (g2, #[.int .i64 0, .slice none 0 0], 34), (h1, #[.string s], 9), (h2, #[.int .u8 32], 5)] := ⟨_, rfl⟩
 have CL : Blks L w7 := ⟨by
  rw [hL]
  intro b m
  simp at m
  rcases m with rfl|rfl|rfl|rfl
  ·exact B1.below HB7.out
  ·exact B2.below HB7.out
  ·exact A1
  ·exact A2⟩
 have C3 := D3.below HB7.out
 have C4 := B4.below HB7.out
 have L3 := C3.lt
 have L4 := C4.lt
 have LL : ∀ b ∈ L, b.1 < w7.heap.size := fun b m => (CL.out b m).lt
 have LT : ∀ b ∈ L, b.2.2 ≠ 75 := by
  rw [hL]
  intro b m
  simp at m
  rcases m with rfl|rfl|rfl|rfl <;> (dsimp only;decide)
 have LN3 : ∀ b ∈ L, b.1 ≠ g3 := by
  have := D3.lt
  have := N13.out
  have := N23.out
  rw [hL]
  intro b m
  simp at m
  rcases m with rfl|rfl|rfl|rfl <;> (dsimp only;omega)
 have LN4 : ∀ b ∈ L, b.1 ≠ g4 := by
  have := B4.lt
  have := N13.out
  have := N23.out
  have := N34.out
  rw [hL]
  intro b m
  simp at m
  rcases m with rfl|rfl|rfl|rfl <;> (dsimp only;omega)
 have M1 : (g1, #[.string s], 9) ∈ L := by rw [hL];simp
 have M2 : (g2, #[.int .i64 0, .slice none 0 0], 34) ∈ L := by rw [hL];simp
 have M3 : (h1, #[.string s], 9) ∈ L := by rw [hL];simp
 have M4 : (h2, #[.int .u8 32], 5) ∈ L := by rw [hL];simp
 have HBW := HB.step HB7.out
 have LH1 := A1.lt
 have LH2 := A2.lt
 have N34' := N34.out
 have PL := zA (And.intro LL (And.intro LT (And.intro LN3 LN4)))
 have PM := zA (And.intro M1 (And.intro M2 (And.intro M3 M4)))
 clear B1 B2 D3 B4 HB7 HB c1 f1 hL LL LT LN3 LN4 M1 M2 M3 M4 N13 N23 N34
 refine wpIn_rangeFunc_ownH hro (by decide) (gf := 92) (lb := #[.pointer (some ⟨h1, 0, none⟩), .pointer (some ⟨h2, 0, none⟩)]) rfl f2 (enters_of Tryd.func92 (by kernel_rfl) rfl)
  (block_Blocks_1.stops F HF (9 - 1) (by decide) h1 h2 s 32 hs w7 A1 A2) Keep2.trans (fun W l o o' hl ho hc hw => Keep2.putObj LH1 LH2 W l o o' hl ho hc hw) (Below.refl _ _) (fun _ => rfl)
  (EscI s w L w7.heap.size g3 g4) (fun _ _ _ => False)
  (fun pre A B row hs hg hr => hs.kept HBW.le hg hr)
  (fun _ _ _ _ _ hs _ _ => hs)
  ⟨CL, C4, ⟨_, C3, World.ownsRow_nil _ _ _ _⟩, HBW, Nat.le_refl _⟩
  (fun x a' W => ∃ gb, w7.heap.size ≤ gb ∧ Blk W gb (blkA (cutF s (64 * ((x.val : Nat) : Int)) 32)) 85 ∧ a' = { tmps := #[.string s, .pointer (some ⟨g1, 0, none⟩), .pointer (some ⟨g2, 0, none⟩), .pointer (some ⟨g3, 0, none⟩), .pointer (some ⟨g4, 0, none⟩), .int .i64 (64 * ((x.val : Nat) : Int)), .pointer (some ⟨gb, 0, none⟩), undef, undef, undef, .string s, .int .i64 s.size, .agg #[.int .i64 s.size, .slice none 0 0], .string s, .func (.func 92) #[] #[.pointer (some ⟨h1, 0, none⟩), .pointer (some ⟨h2, 0, none⟩)], .int .i64 (64 * ((x.val : Nat) : Int)), .agg (blkA (cutF s (64 * ((x.val : Nat) : Int)) 32)), undef, undef, undef, undef, undef, undef, undef, undef, undef, undef, undef, undef, undef, undef, undef, undef, undef, undef, undef, undef, undef, undef, undef, undef, undef, undef, undef, undef, undef, undef, undef, undef, undef, undef, undef, undef, undef], defers := [] })
  (fun x a' pre A B row hs hg hr => by
   obtain ⟨gb, h1, h2, h3⟩ := hs
   exact ⟨gb, h1, h2.kept hg (fun r e => (hr r e).2), h3⟩)
  ?assign ?body ?done ?stop
 case assign =>
  intro l pre x W K hI hK
  have HB := hI.hb
  have SZ := zA hI.sz
  dsimp only [blkEnc]
  gi_wp2_with (first
   | ((with_reducible refine gate_dstIn (N := 6) rfl ?_);refine ev_allocIn HB rfl rfl (blkA fun _ => 0) 85 ?hr ?_;(case hr => (rw [← blkA_zero];go_simp;rfl));intro gb w8 G_gb GE_gb B_gb HBn K_gb KO_w8;clear HB;have HB := HBn;clear HBn)
   | ((with_reducible refine gate_In (Op.store 85 (.tmp 6) (.tmp 16)) rfl ?_);refine ev_storeIn HB B_gb GE_gb rfl 85 _ _ rfl rfl rfl (size64' _) (by rw [blkA_size, blkA_size]) (blkA_one _) ?_;intro w9 B9 HBn K_w9 KO_w9;clear HB;have HB := HBn;clear HBn))
  have hKO := KO_w8.out.trans KO_w9.out
  refine hK _ _ (hKO.from _) ?_ ?_ ⟨gb, zz2 SZ.out G_gb.out, B9, rfl⟩
  ·exact (Keep2.below K_gb.out (by have := SZ.out;omega) (by have := SZ.out;omega)).trans (Keep2.other K_w9 (by have := SZ.out;have := G_gb.out;omega) (by have := SZ.out;have := G_gb.out;omega))
  ·have N : ∀ g, g < w7.heap.size → g ≠ gb := fun g h => by have := SZ.out;have := G_gb.out;omega
   obtain ⟨v, b3, hrow⟩ := hI.row
   exact ⟨(hI.bs.below K_gb.out).other K_w9 (fun b m => N _ (PL.out.1 b m)), (hI.b4.below K_gb.out).other K_w9 (N _ L4), ⟨v, (b3.below K_gb.out).other K_w9 (N _ L3), row_other (row_below hrow K_gb.out) B_gb (by decide) K_w9⟩, HB, zz2 SZ.out (zz2 K_gb.out.size K_w9.out.1)⟩
 case body =>
  rintro l pre x a' W hl ⟨r, hr⟩ hI ⟨gb, hgb, BX, rfl⟩ hlt
  have HB := hI.hb
  obtain ⟨v, b3, hrow⟩ := hI.row
  have RB := zA hr
  clear hr
  have hx : 64 * x.val < s.size := by have := x.isLt;unfold nwords at this;omega
  obtain ⟨q, hq⟩ : ∃ q : Nat → Bool, q = fun j => decide (cutF s (64 * ((x.val : Nat) : Int)) 32 j = 92) := ⟨_, rfl⟩
  obtain ⟨c, hc⟩ : ∃ c, c = (foldE s pre).1 := ⟨_, rfl⟩
  have EQ : ∀ w, Calls Tryd.prog 56 #[.agg (blkA (cutF s (64 * ((x.val : Nat) : Int)) 32)), .int .u8 92] w fun e w' => e = .returned (.int .u64 (iv (word q))) ∧ Below w.heap.size w w' := fun w => by
   rw [hq]
   exact block_Equal.calls _ (fun i => cutF_range s _ 32 (by decide) i) 92 (by decide) (by decide) w
  have b4 := hI.b4
  rw [← hc] at b4
  have HQ := zA hq
  have HC := zA hc
  have HX := zA hx
  have HL : Aside0 ((pre.length + 1) * 8 ≤ 140737488355328) := ⟨by have := nwords_room hs;omega⟩
  clear hq hc hx hlt
  by_cases h0 : iv (word q) = 0 ∧ c = false
  ·obtain ⟨h0, rfl⟩ := h0
   have c4 := b4.cell (i := 0) rfl
   have hz : (iv (word q) == 0) = true := by rw [h0];rfl
   have H0 := zA h0
   clear h0
   have c31 := b3.cell (i := 1) rfl
   gi_wp2_with (first
    | ((with_reducible refine gate_dstIn (N := 17) rfl ?_);refine ev_loadIn BX rfl 85 _ rfl rfl Tryd.underlying85 (size64' _) ?_)
    | (gi_at_call 56;refine (CallsIn.inRound l (callsIn_of HF (EQ _))).mono ?_;rintro e w8 ⟨rfl, hb8⟩;have HK8 := zA hb8;have d4 := b4.below hb8;have d3 := b3.below hb8;have e4 := d4.cell (i := 0) rfl;have e31 := d3.cell (i := 1) rfl;have hrow8 := row_below hrow hb8;have HB8 := HB.step hb8;clear hb8)
    | ((with_reducible refine gate_dstIn (N := 27) rfl ?_);refine ev_lit1In HB8 rfl rfl (.int .u64 0) 75 ?hr ?_;(case hr => first|(go_simp;done)|(go_simp;rfl));intro gl w9 G_gl B_gl HB9 K_gl KO9;have hrow9 := row_below hrow8 K_gl.out;have d3' := d3.below K_gl.out)
    | ((with_reducible refine gate_dstIn (N := 28) rfl ?_);refine ev_append1In HB9 rfl _ _ 32 75 (.int .u64 0) 8 rfl Tryd.underlying32 (by kernel_rfl) rfl (by decide) v pre.length _ rfl hrow9 gl (.int .u64 0) rfl B_gl rfl HL.out ?_;intro v1 w10 hrow10 HB10 K10 KO10 FV1;obtain ⟨g', cap', rfl⟩ := FV1.out;have f3' := d3'.appended (by decide) hrow9 K10)
    | ((with_reducible refine gate_In (Op.store 32 (.tmp 29) (.tmp 28)) rfl ?_);refine ev_store1In (i := 1) HB10 f3' GE_g3 rfl 32 _ _ rfl rfl _ rfl (by simp) (by kernel_rfl) rfl ?_;intro w11 B11 HB11 K11 KO11))
   have E8 := hI.bs.below HK8.out
   have E9 := E8.below K_gl.out
   have E10 := E9.appended PL.out.2.1 hrow9 K10
   have E11 := E10.other K11 PL.out.2.2.1
   have d49 := d4.below K_gl.out
   have d410 := d49.appended (by decide) hrow9 K10
   have d411 := d410.other K11 (Nat.ne_of_gt N34')
   have hsz : W.heap.size ≤ w11.heap.size := zz2 HK8.out.size (zz2 K_gl.out.size (zz2 K10.out.1 K11.out.1))
   refine ⟨(((keepsOthers_below HK8.out).trans KO9.out).trans (KO10.out.trans KO11.out)).from _, Keep2.of_blk (hI.bs.out _ PM.out.2.2.1) (hI.bs.out _ PM.out.2.2.2) (E11.out _ PM.out.2.2.1) (E11.out _ PM.out.2.2.2) hsz, E11, ?_, ⟨_, B11, ?_⟩, HB11, zz2 hI.sz hsz⟩
   ·rw [foldE_snoc, (zero_step s _ x.val HQ.out H0.out HC.out.symm).1]
    exact d411
   ·rw [foldE_snoc, (zero_step s _ x.val HQ.out H0.out HC.out.symm).2, List.length_append, List.map_append]
    exact row_other hrow10 f3' (by decide) K11
  ·have hz : ((iv (word q) == 0) && !c) = false := by
    cases c
    ·simp at h0
     simp [h0]
    ·simp
   have c4 := b4.cell (i := 0) rfl
   have c31 := b3.cell (i := 1) rfl
   have c1 := (hI.bs.out _ PM.out.1).cell (i := 0) rfl
   clear h0
   have WE := zA (words_Escaped.tells q c)
   have hs1 : (s.size : Int) ≤ 281474976702464 := by omega
   have HX' := HX.out
   have hx1 : 64 * ((x.val : Nat) : Int) < s.size := by omega
   have LD : ∀ w, (Calls Tryd.prog 91 #[.int .u64 (iv (word q)), .bool c] w fun e w' => e = .returned (.tuple #[.int .u64 (iv (word (escW q c))), .bool (escW q c 64)]) ∧ Drawn0 w w') := fun w => words_Escaped.calls _ _ _ _ w WE.out
   obtain ⟨cc, hcc⟩ : ∃ cc, cc = escW q c 64 := ⟨_, rfl⟩
   obtain ⟨ww, hww⟩ : ∃ ww, ww = iv (word (escW q c)) := ⟨_, rfl⟩
   rw [← hcc, ← hww] at LD
   have HCC := zA hcc
   have HWW := zA hww
   clear hcc hww HX' WE
   have LDh := zA LD
   clear LD
   have key : (∃ z, (iv (word q) == 0) = z ∧ (z = true → c = true)) := ⟨_, rfl, fun h => by
    cases c
    ·simp [h] at hz
    ·rfl⟩
   clear hz
   obtain ⟨z, hz0, hzc⟩ := key
   have HZC := zA hzc
   clear hzc
   by_cases hfull : (s.size : Int) - 64 * ((x.val : Nat) : Int) < 64
   ·have STEP := zA (part_step s (foldE s pre) x.val HQ.out HC.out HX.out (by omega))
    rw [← HWW.out] at STEP
    cases z
    ·gi_wp2_with (first
      | ((with_reducible refine gate_dstIn (N := 17) rfl ?_);refine ev_loadIn BX rfl 85 _ rfl rfl Tryd.underlying85 (size64' _) ?_)
      | (gi_at_call 56;refine (CallsIn.inRound l (callsIn_of HF (EQ _))).mono ?_;rintro e w8 ⟨rfl, hb8⟩;have HK8 := zA hb8;have E8 := hI.bs.below hb8;have e1 := (E8.out _ PM.out.1).cell (i := 0) rfl;have d4 := b4.below hb8;have d3 := b3.below hb8;have e4 := d4.cell (i := 0) rfl;have e31 := d3.cell (i := 1) rfl;have hrow8 := row_below hrow hb8;have HB8 := HB.step hb8;clear hb8)
      | (gi_at_call 91;refine (CallsIn.inRound l (callsIn_of HF (LDh.out _))).mono ?_;rintro e w9 ⟨rfl, ⟨nd, rfl⟩⟩;have d4n := d4.drewN nd;have HB9 := HB8.drewN nd;have E9 := E8.drewN nd;have d3n := d3.drewN nd;have hrow9 := row_drewN hrow8 nd)
      | ((with_reducible refine gate_In (Op.store 4 (.tmp 4) (.tmp 35)) rfl ?_);refine ev_store1In (i := 0) HB9 d4n GE_g4 rfl 4 _ _ rfl rfl _ rfl (by simp) (by kernel_rfl) rfl ?_;intro w10 B10 HB10 K10 KO10;have E10 := E9.other K10 PL.out.2.2.2;have d310 := d3n.other K10 (Nat.ne_of_lt N34');have hrow10 := row_other hrow9 d4n (by decide) K10;have e1 := (E10.out _ PM.out.1).cell (i := 0) rfl;have e31 := d310.cell (i := 1) rfl)
      | ((with_reducible refine gate_dstIn (N := 50) rfl ?_);refine ev_lit1In HB10 rfl rfl (.int .u64 (bits BinOp.and IntKind.u64 ww (IntKind.u64.wrap (IntKind.u64.wrap (2 ^ (s.size - 64 * x.val)) - 1)))) 75 ?hr ?_;(case hr => first|(go_simp;done)|(go_simp;rfl));intro gl w11 G_gl B_gl HB11 K_gl KO11;have E11 := E10.below K_gl.out;have d311 := d310.below K_gl.out;have d411 := B10.below K_gl.out;have hrow11 := row_below hrow10 K_gl.out)
      | ((with_reducible refine gate_dstIn (N := 51) rfl ?_);refine ev_append1In HB11 rfl _ _ 32 75 (.int .u64 0) 8 rfl Tryd.underlying32 (by kernel_rfl) rfl (by decide) v pre.length _ rfl hrow11 gl (.int .u64 (bits BinOp.and IntKind.u64 ww (IntKind.u64.wrap (IntKind.u64.wrap (2 ^ (s.size - 64 * x.val)) - 1)))) rfl B_gl rfl HL.out ?_;intro v1 w12 hrow12 HB12 K12 KO12 FV1;obtain ⟨g', cap', rfl⟩ := FV1.out;have d312 := d311.appended (by decide) hrow11 K12;have d412 := d411.appended (by decide) hrow11 K12;have E12 := E11.appended PL.out.2.1 hrow11 K12)
      | ((with_reducible refine gate_In (Op.store 32 (.tmp 52) (.tmp 51)) rfl ?_);refine ev_store1In (i := 1) HB12 d312 GE_g3 rfl 32 _ _ rfl rfl _ rfl (by simp) (by kernel_rfl) rfl ?_;intro w13 B13 HB13 K13 KO13;have E13 := E12.other K13 PL.out.2.2.1;have d413 := d412.other K13 (Nat.ne_of_gt N34')))
     have hsz : W.heap.size ≤ w13.heap.size := zz2 HK8.out.size (zz2 K10.out.1 (zz2 K_gl.out.size (zz2 K12.out.1 K13.out.1)))
     refine ⟨(((((keepsOthers_below HK8.out).trans (keepsOthers_drewN _ nd)).trans KO10.out).trans KO11.out).trans (KO12.out.trans KO13.out)).from _, Keep2.of_blk (hI.bs.out _ PM.out.2.2.1) (hI.bs.out _ PM.out.2.2.2) (E13.out _ PM.out.2.2.1) (E13.out _ PM.out.2.2.2) hsz, E13, ?_, ⟨_, B13, ?_⟩, HB13, zz2 hI.sz hsz⟩
     ·rw [foldE_snoc, STEP.out, ← HCC.out]
      exact d413
     ·rw [foldE_snoc, STEP.out, List.length_append, List.map_append]
      exact row_other hrow12 d312 (by decide) K13
    ·obtain rfl : c = true := HZC.out rfl
     gi_wp2_with (first
      | ((with_reducible refine gate_dstIn (N := 17) rfl ?_);refine ev_loadIn BX rfl 85 _ rfl rfl Tryd.underlying85 (size64' _) ?_)
      | (gi_at_call 56;refine (CallsIn.inRound l (callsIn_of HF (EQ _))).mono ?_;rintro e w8 ⟨rfl, hb8⟩;have HK8 := zA hb8;have E8 := hI.bs.below hb8;have e1 := (E8.out _ PM.out.1).cell (i := 0) rfl;have d4 := b4.below hb8;have d3 := b3.below hb8;have e4 := d4.cell (i := 0) rfl;have e31 := d3.cell (i := 1) rfl;have hrow8 := row_below hrow hb8;have HB8 := HB.step hb8;clear hb8)
      | (gi_at_call 91;refine (CallsIn.inRound l (callsIn_of HF (LDh.out _))).mono ?_;rintro e w9 ⟨rfl, ⟨nd, rfl⟩⟩;have d4n := d4.drewN nd;have HB9 := HB8.drewN nd;have E9 := E8.drewN nd;have d3n := d3.drewN nd;have hrow9 := row_drewN hrow8 nd)
      | ((with_reducible refine gate_In (Op.store 4 (.tmp 4) (.tmp 35)) rfl ?_);refine ev_store1In (i := 0) HB9 d4n GE_g4 rfl 4 _ _ rfl rfl _ rfl (by simp) (by kernel_rfl) rfl ?_;intro w10 B10 HB10 K10 KO10;have E10 := E9.other K10 PL.out.2.2.2;have d310 := d3n.other K10 (Nat.ne_of_lt N34');have hrow10 := row_other hrow9 d4n (by decide) K10;have e1 := (E10.out _ PM.out.1).cell (i := 0) rfl;have e31 := d310.cell (i := 1) rfl)
      | ((with_reducible refine gate_dstIn (N := 50) rfl ?_);refine ev_lit1In HB10 rfl rfl (.int .u64 (bits BinOp.and IntKind.u64 ww (IntKind.u64.wrap (IntKind.u64.wrap (2 ^ (s.size - 64 * x.val)) - 1)))) 75 ?hr ?_;(case hr => first|(go_simp;done)|(go_simp;rfl));intro gl w11 G_gl B_gl HB11 K_gl KO11;have E11 := E10.below K_gl.out;have d311 := d310.below K_gl.out;have d411 := B10.below K_gl.out;have hrow11 := row_below hrow10 K_gl.out)
      | ((with_reducible refine gate_dstIn (N := 51) rfl ?_);refine ev_append1In HB11 rfl _ _ 32 75 (.int .u64 0) 8 rfl Tryd.underlying32 (by kernel_rfl) rfl (by decide) v pre.length _ rfl hrow11 gl (.int .u64 (bits BinOp.and IntKind.u64 ww (IntKind.u64.wrap (IntKind.u64.wrap (2 ^ (s.size - 64 * x.val)) - 1)))) rfl B_gl rfl HL.out ?_;intro v1 w12 hrow12 HB12 K12 KO12 FV1;obtain ⟨g', cap', rfl⟩ := FV1.out;have d312 := d311.appended (by decide) hrow11 K12;have d412 := d411.appended (by decide) hrow11 K12;have E12 := E11.appended PL.out.2.1 hrow11 K12)
      | ((with_reducible refine gate_In (Op.store 32 (.tmp 52) (.tmp 51)) rfl ?_);refine ev_store1In (i := 1) HB12 d312 GE_g3 rfl 32 _ _ rfl rfl _ rfl (by simp) (by kernel_rfl) rfl ?_;intro w13 B13 HB13 K13 KO13;have E13 := E12.other K13 PL.out.2.2.1;have d413 := d412.other K13 (Nat.ne_of_gt N34')))
     have hsz : W.heap.size ≤ w13.heap.size := zz2 HK8.out.size (zz2 K10.out.1 (zz2 K_gl.out.size (zz2 K12.out.1 K13.out.1)))
     refine ⟨(((((keepsOthers_below HK8.out).trans (keepsOthers_drewN _ nd)).trans KO10.out).trans KO11.out).trans (KO12.out.trans KO13.out)).from _, Keep2.of_blk (hI.bs.out _ PM.out.2.2.1) (hI.bs.out _ PM.out.2.2.2) (E13.out _ PM.out.2.2.1) (E13.out _ PM.out.2.2.2) hsz, E13, ?_, ⟨_, B13, ?_⟩, HB13, zz2 hI.sz hsz⟩
     ·rw [foldE_snoc, STEP.out, ← HCC.out]
      exact d413
     ·rw [foldE_snoc, STEP.out, List.length_append, List.map_append]
      exact row_other hrow12 d312 (by decide) K13
   ·have STEP := zA (full_step s (foldE s pre) x.val HQ.out HC.out (by omega))
    rw [← HWW.out] at STEP
    cases z
    ·gi_wp2_with (first
      | ((with_reducible refine gate_dstIn (N := 17) rfl ?_);refine ev_loadIn BX rfl 85 _ rfl rfl Tryd.underlying85 (size64' _) ?_)
      | (gi_at_call 56;refine (CallsIn.inRound l (callsIn_of HF (EQ _))).mono ?_;rintro e w8 ⟨rfl, hb8⟩;have HK8 := zA hb8;have E8 := hI.bs.below hb8;have e1 := (E8.out _ PM.out.1).cell (i := 0) rfl;have d4 := b4.below hb8;have d3 := b3.below hb8;have e4 := d4.cell (i := 0) rfl;have e31 := d3.cell (i := 1) rfl;have hrow8 := row_below hrow hb8;have HB8 := HB.step hb8;clear hb8)
      | (gi_at_call 91;refine (CallsIn.inRound l (callsIn_of HF (LDh.out _))).mono ?_;rintro e w9 ⟨rfl, ⟨nd, rfl⟩⟩;have d4n := d4.drewN nd;have HB9 := HB8.drewN nd;have E9 := E8.drewN nd;have d3n := d3.drewN nd;have hrow9 := row_drewN hrow8 nd)
      | ((with_reducible refine gate_In (Op.store 4 (.tmp 4) (.tmp 35)) rfl ?_);refine ev_store1In (i := 0) HB9 d4n GE_g4 rfl 4 _ _ rfl rfl _ rfl (by simp) (by kernel_rfl) rfl ?_;intro w10 B10 HB10 K10 KO10;have E10 := E9.other K10 PL.out.2.2.2;have d310 := d3n.other K10 (Nat.ne_of_lt N34');have hrow10 := row_other hrow9 d4n (by decide) K10;have e1 := (E10.out _ PM.out.1).cell (i := 0) rfl;have e31 := d310.cell (i := 1) rfl)
      | ((with_reducible refine gate_dstIn (N := 50) rfl ?_);refine ev_lit1In HB10 rfl rfl (.int .u64 (ww)) 75 ?hr ?_;(case hr => first|(go_simp;done)|(go_simp;rfl));intro gl w11 G_gl B_gl HB11 K_gl KO11;have E11 := E10.below K_gl.out;have d311 := d310.below K_gl.out;have d411 := B10.below K_gl.out;have hrow11 := row_below hrow10 K_gl.out)
      | ((with_reducible refine gate_dstIn (N := 51) rfl ?_);refine ev_append1In HB11 rfl _ _ 32 75 (.int .u64 0) 8 rfl Tryd.underlying32 (by kernel_rfl) rfl (by decide) v pre.length _ rfl hrow11 gl (.int .u64 (ww)) rfl B_gl rfl HL.out ?_;intro v1 w12 hrow12 HB12 K12 KO12 FV1;obtain ⟨g', cap', rfl⟩ := FV1.out;have d312 := d311.appended (by decide) hrow11 K12;have d412 := d411.appended (by decide) hrow11 K12;have E12 := E11.appended PL.out.2.1 hrow11 K12)
      | ((with_reducible refine gate_In (Op.store 32 (.tmp 52) (.tmp 51)) rfl ?_);refine ev_store1In (i := 1) HB12 d312 GE_g3 rfl 32 _ _ rfl rfl _ rfl (by simp) (by kernel_rfl) rfl ?_;intro w13 B13 HB13 K13 KO13;have E13 := E12.other K13 PL.out.2.2.1;have d413 := d412.other K13 (Nat.ne_of_gt N34')))
     have hsz : W.heap.size ≤ w13.heap.size := zz2 HK8.out.size (zz2 K10.out.1 (zz2 K_gl.out.size (zz2 K12.out.1 K13.out.1)))
     refine ⟨(((((keepsOthers_below HK8.out).trans (keepsOthers_drewN _ nd)).trans KO10.out).trans KO11.out).trans (KO12.out.trans KO13.out)).from _, Keep2.of_blk (hI.bs.out _ PM.out.2.2.1) (hI.bs.out _ PM.out.2.2.2) (E13.out _ PM.out.2.2.1) (E13.out _ PM.out.2.2.2) hsz, E13, ?_, ⟨_, B13, ?_⟩, HB13, zz2 hI.sz hsz⟩
     ·rw [foldE_snoc, STEP.out, ← HCC.out]
      exact d413
     ·rw [foldE_snoc, STEP.out, List.length_append, List.map_append]
      exact row_other hrow12 d312 (by decide) K13
    ·obtain rfl : c = true := HZC.out rfl
     gi_wp2_with (first
      | ((with_reducible refine gate_dstIn (N := 17) rfl ?_);refine ev_loadIn BX rfl 85 _ rfl rfl Tryd.underlying85 (size64' _) ?_)
      | (gi_at_call 56;refine (CallsIn.inRound l (callsIn_of HF (EQ _))).mono ?_;rintro e w8 ⟨rfl, hb8⟩;have HK8 := zA hb8;have E8 := hI.bs.below hb8;have e1 := (E8.out _ PM.out.1).cell (i := 0) rfl;have d4 := b4.below hb8;have d3 := b3.below hb8;have e4 := d4.cell (i := 0) rfl;have e31 := d3.cell (i := 1) rfl;have hrow8 := row_below hrow hb8;have HB8 := HB.step hb8;clear hb8)
      | (gi_at_call 91;refine (CallsIn.inRound l (callsIn_of HF (LDh.out _))).mono ?_;rintro e w9 ⟨rfl, ⟨nd, rfl⟩⟩;have d4n := d4.drewN nd;have HB9 := HB8.drewN nd;have E9 := E8.drewN nd;have d3n := d3.drewN nd;have hrow9 := row_drewN hrow8 nd)
      | ((with_reducible refine gate_In (Op.store 4 (.tmp 4) (.tmp 35)) rfl ?_);refine ev_store1In (i := 0) HB9 d4n GE_g4 rfl 4 _ _ rfl rfl _ rfl (by simp) (by kernel_rfl) rfl ?_;intro w10 B10 HB10 K10 KO10;have E10 := E9.other K10 PL.out.2.2.2;have d310 := d3n.other K10 (Nat.ne_of_lt N34');have hrow10 := row_other hrow9 d4n (by decide) K10;have e1 := (E10.out _ PM.out.1).cell (i := 0) rfl;have e31 := d310.cell (i := 1) rfl)
      | ((with_reducible refine gate_dstIn (N := 50) rfl ?_);refine ev_lit1In HB10 rfl rfl (.int .u64 (ww)) 75 ?hr ?_;(case hr => first|(go_simp;done)|(go_simp;rfl));intro gl w11 G_gl B_gl HB11 K_gl KO11;have E11 := E10.below K_gl.out;have d311 := d310.below K_gl.out;have d411 := B10.below K_gl.out;have hrow11 := row_below hrow10 K_gl.out)
      | ((with_reducible refine gate_dstIn (N := 51) rfl ?_);refine ev_append1In HB11 rfl _ _ 32 75 (.int .u64 0) 8 rfl Tryd.underlying32 (by kernel_rfl) rfl (by decide) v pre.length _ rfl hrow11 gl (.int .u64 (ww)) rfl B_gl rfl HL.out ?_;intro v1 w12 hrow12 HB12 K12 KO12 FV1;obtain ⟨g', cap', rfl⟩ := FV1.out;have d312 := d311.appended (by decide) hrow11 K12;have d412 := d411.appended (by decide) hrow11 K12;have E12 := E11.appended PL.out.2.1 hrow11 K12)
      | ((with_reducible refine gate_In (Op.store 32 (.tmp 52) (.tmp 51)) rfl ?_);refine ev_store1In (i := 1) HB12 d312 GE_g3 rfl 32 _ _ rfl rfl _ rfl (by simp) (by kernel_rfl) rfl ?_;intro w13 B13 HB13 K13 KO13;have E13 := E12.other K13 PL.out.2.2.1;have d413 := d412.other K13 (Nat.ne_of_gt N34')))
     have hsz : W.heap.size ≤ w13.heap.size := zz2 HK8.out.size (zz2 K10.out.1 (zz2 K_gl.out.size (zz2 K12.out.1 K13.out.1)))
     refine ⟨(((((keepsOthers_below HK8.out).trans (keepsOthers_drewN _ nd)).trans KO10.out).trans KO11.out).trans (KO12.out.trans KO13.out)).from _, Keep2.of_blk (hI.bs.out _ PM.out.2.2.1) (hI.bs.out _ PM.out.2.2.2) (E13.out _ PM.out.2.2.1) (E13.out _ PM.out.2.2.2) hsz, E13, ?_, ⟨_, B13, ?_⟩, HB13, zz2 hI.sz hsz⟩
     ·rw [foldE_snoc, STEP.out, ← HCC.out]
      exact d413
     ·rw [foldE_snoc, STEP.out, List.length_append, List.map_append]
      exact row_other hrow12 d312 (by decide) K13
 case done =>
  rintro D ys W hD rfl hI hK
  obtain ⟨v, b3, hrow⟩ := hI.row
  have b2 := hI.bs.out _ PM.out.2.1
  have HB := hI.hb
  have V1 := zA (row_one hrow)
  have HD := zA hD
  have HKD := zA hK
  clear hK hD
  gi_wp2_with (first
   | ((with_reducible refine gate_dstIn (N := 53) rfl ?_);refine ev_loadSIn b3 rfl 34 _ rfl rfl Tryd.underlying34 rfl (by kernel_rfl) ?_)
   | ((with_reducible refine gate_In (Op.store 34 (.tmp 2) (.tmp 53)) rfl ?_);refine ev_storeIn HB b2 GE_g2 rfl 34 _ _ rfl rfl rfl (by kernel_rfl) rfl (by simp [Value.oneCell'];exact V1.out) ?_;intro w8 B8 HB8 K8 KO8))
  have HK8 := KO8.out.same D _ HKD.out rfl
  have hrow8 := row_other hrow b2 (by decide) K8
  have hg := grownBy_putObj' w8 D (.deferred none)
  have hr : ∀ r, some D = some r → ∃ o : Obj, w8.heap[r]? = some o ∧ o.isCells = false := fun r e => by
   cases e
   exact ⟨_, HK8, rfl⟩
  have hle : w.heap.size ≤ D := zz2 HBW.le HD.out
  refine ⟨by simp, .inl ⟨_, _, rfl, run_takeDeferred HK8, ?_⟩⟩
  refine ⟨_, results_cell_row rfl _ _ g2 34 _ (0, 0) _ rfl (B8.kept hg hr).out Tryd.underlying34 rfl (by kernel_rfl), v, rfl, ?_, (HB8.kept hg hle (fun r e => by cases e;exact Nat.le_refl _)).out⟩
  have h1 := row_kept hrow8 hg hr
  rw [foldE_all, List.length_finRange] at h1
  exact h1
 case stop =>
  rintro D c pre W _ _ h _
  exact h.elim
end


section
open Go.Proofs.YtgddljealeklkaaDoorQ Go.Proofs.YtgddljealeklkaaDoorM Go.Shelf
attribute [local go_sem] Oper.semAt_some
structure MarksI (s : ByteArray) (w : World) (L : List (Nat × Array Value × Nat)) (m : Nat) (v1 : Value) {n : Nat} (pre : List (Fin n)) (W : World) : Prop where mk ::
 bs : Blks L W
 row : W.ownsRow w.heap.size 75 1 v1 (nwords s.size) ((foldM s pre).map (Value.int .u64))
 hb : BelowH w W
 sz : m ≤ W.heap.size
theorem MarksI.kept {s : ByteArray} {w W W' : World} {L : List (Nat × Array Value × Nat)} {m : Nat} {v1 : Value} {n : Nat} {pre : List (Fin n)} (h : MarksI s w L m v1 pre W) {B : Nat} (hB : w.heap.size ≤ B) {row : Option Nat} (hg : W.grownBy W' row) (hr : ∀ r, row = some r → B ≤ r ∧ ∃ o : Obj, W.heap[r]? = some o ∧ o.isCells = false) : MarksI s w L m v1 pre W' := by
 have hr' : ∀ r, row = some r → ∃ o : Obj, W.heap[r]? = some o ∧ o.isCells = false := fun r e => (hr r e).2
 exact ⟨h.bs.kept hg hr', row_kept h.row hg hr', h.hb.kept hg hB (fun r e => (hr r e).1), zz2 h.sz hg.size⟩
theorem MarksI.below {s : ByteArray} {w W W' : World} {L : List (Nat × Array Value × Nat)} {m : Nat} {v1 : Value} {n : Nat} {pre : List (Fin n)} (h : MarksI s w L m v1 pre W) (hb : Below W.heap.size W W') : MarksI s w L m v1 pre W' :=
 ⟨h.bs.below hb, row_below h.row hb, h.hb.step hb, zz2 h.sz hb.size⟩
set_option maxHeartbeats 4000000 in
set_option maxRecDepth 100000 in
theorem quotes_Marks.walk (s : ByteArray) (w : World) (hs : s.size ≤ 281474976702464) :
  Calls Tryd.prog 18 #[.string s] w fun e w' => ∃ v1_ : Value, e = .returned (.agg #[.int .i64 s.size, v1_]) ∧ w'.ownsRow w.heap.size 75 1 v1_ (nwords s.size) ((wordsOf s.size (mkq s)).map (Value.int .u64)) ∧ Below w.heap.size w w' := by
 obtain ⟨F, hF⟩ : ∃ F, F = Fence.wide := ⟨_, rfl⟩
 have HF := zA hF
 refine (callsIn_wide (n := 9)).1 ?_
 rw [← hF]
 clear hF
 have hro := wide_round HF
 have HB := BelowH.refl w
 have f1 := wide_fn HF 55
 have f2 := wide_fn HF 92
 have f3 := wide_fn HF 56
 have f4 := wide_fn HF 54
 refine callsIn_of_wp_marks Tryd.func18 rfl (wide_fn HF _) ?_ hro
 simp only [Tryd.ntmps18, List.size_toArray, List.length_cons, List.length_nil, Nat.reduceAdd, Nat.reduceSub, Array.replicate_succ, Array.replicate_zero, List.push_toArray, List.append_toArray, List.nil_append, List.cons_append]
 gi_upto_region 2 with (first
  | ((with_reducible refine gate_dstIn (N := 2) rfl ?_);refine ev_allocIn HB rfl rfl (#[.int .i64 0, .slice none 0 0]) 34 ?hr ?_;(case hr => first|(go_simp;done)|(go_simp;rfl));intro g2 w2 G_g2 GE_g2 B_g2 HBn K_g2 KO_w2;clear HB;have HB := HBn;clear HBn)
  | (gi_at_call 54;refine (callsIn_of HF (escape_Escaped.walk s _ hs)).mono ?_;rintro e w3 ⟨v1, rfl, hrow, hb3⟩;have R3 := zA (row_mono hrow HB.le);have V1 := zA (row_one hrow);have HK3 := zA hb3;have HBn := HB.step hb3;clear HB hb3 hrow;have HB := HBn;clear HBn)
  | ((with_reducible refine gate_dstIn (N := 3) rfl ?_);refine ev_allocIn HB rfl rfl (#[.int .i64 0, .slice none 0 0]) 34 ?hr ?_;(case hr => first|(go_simp;done)|(go_simp;rfl));intro g3 w4 G_g3 GE_g3 B_g3 HBn K_g3 KO_w4;clear HB;have HB := HBn;clear HBn)
  | ((with_reducible refine gate_In (Op.store 34 (.tmp 3) (.tmp 7)) rfl ?_);refine ev_storeIn HB B_g3 GE_g3 rfl 34 _ _ rfl rfl rfl (by kernel_rfl) rfl (by simp [Value.oneCell'];exact V1.out) ?_;intro w5 B3 HBn K_w5 KO_w5;clear HB;have HB := HBn;clear HBn))
 have N23 := zA (show g2 < g3 by have := G_g3.out;have := B_g2.lt;have := HK3.out.size;omega)
 have B2 := ((B_g2.below HK3.out).below K_g3.out).other K_w5 (Nat.ne_of_lt N23.out)
 have R5 := row_other (row_below R3.out K_g3.out) B_g3 (by decide) K_w5
 clear B_g2 B_g3 K_g2 K_g3 K_w5 KO_w2 KO_w4 KO_w5 R3 HK3 G_g2 G_g3
 gi_wp2_with (first
  | (gi_at_call 55;refine (callsIn_of HF (block_Blocks.calls s 0 _)).mono ?_;rintro e w7 ⟨h1, h2, rfl, GE1, GE2, A1, A2, HB7⟩))
 obtain ⟨L, hL⟩ : ∃ L : List (Nat × Array Value × Nat), L = [(g3, #[.int .i64 s.size, v1], 34), (g2, #[.int .i64 0, .slice none 0 0], 34), (h1, #[.string s], 9), (h2, #[.int .u8 0], 5)] := ⟨_, rfl⟩
 have CL : Blks L w7 := ⟨by
  rw [hL]
  intro b m
  simp at m
  rcases m with rfl|rfl|rfl|rfl
  ·exact B3.below HB7.out
  ·exact B2.below HB7.out
  ·exact A1
  ·exact A2⟩
 have C7 := row_below R5 HB7.out
 have LL : ∀ b ∈ L, b.1 < w7.heap.size := fun b m => (CL.out b m).lt
 have LT : ∀ b ∈ L, b.2.2 ≠ 75 := by
  rw [hL]
  intro b m
  simp at m
  rcases m with rfl|rfl|rfl|rfl <;> (dsimp only;decide)
 have M3 : (g3, #[.int .i64 s.size, v1], 34) ∈ L := by rw [hL];simp
 have M2 : (g2, #[.int .i64 0, .slice none 0 0], 34) ∈ L := by rw [hL];simp
 have M4 : (h1, #[.string s], 9) ∈ L := by rw [hL];simp
 have M5 : (h2, #[.int .u8 0], 5) ∈ L := by rw [hL];simp
 have HBW := HB.step HB7.out
 have LH1 := A1.lt
 have LH2 := A2.lt
 have PL := zA (And.intro LL LT)
 have PM := zA (And.intro M3 (And.intro M2 (And.intro M4 M5)))
 clear B2 B3 R5 HB7 HB f1 hL LL LT M2 M3 M4 M5 N23
 refine wpIn_rangeFunc_ownH hro (by decide) (gf := 92) (lb := #[.pointer (some ⟨h1, 0, none⟩), .pointer (some ⟨h2, 0, none⟩)]) rfl f2 (enters_of Tryd.func92 (by kernel_rfl) rfl)
  (block_Blocks_1.stops F HF (9 - 1) (by decide) h1 h2 s 0 hs w7 A1 A2) Keep2.trans (fun W l o o' hl ho hc hw => Keep2.putObj LH1 LH2 W l o o' hl ho hc hw) (Below.refl _ _) (fun _ => rfl)
  (MarksI s w L w7.heap.size v1) (fun _ _ _ => False)
  (fun pre A B row hs hg hr => hs.kept HBW.le hg hr)
  (fun _ _ _ _ _ hs _ _ => hs)
  ⟨CL, C7, HBW, Nat.le_refl _⟩
  (fun x a' W => ∃ gb, w7.heap.size ≤ gb ∧ Blk W gb (blkA (cutF s (64 * ((x.val : Nat) : Int)) 0)) 85 ∧ a' = { tmps := #[.string s, undef, .pointer (some ⟨g2, 0, none⟩), .pointer (some ⟨g3, 0, none⟩), .int .i64 (64 * ((x.val : Nat) : Int)), .pointer (some ⟨gb, 0, none⟩), .string s, .agg #[.int .i64 s.size, v1], .string s, .func (.func 92) #[] #[.pointer (some ⟨h1, 0, none⟩), .pointer (some ⟨h2, 0, none⟩)], .int .i64 (64 * ((x.val : Nat) : Int)), .agg (blkA (cutF s (64 * ((x.val : Nat) : Int)) 0)), undef, undef, undef, undef, undef, undef, undef, undef, undef, undef, undef, undef, undef, undef, undef], defers := [] })
  (fun x a' pre A B row hs hg hr => by
   obtain ⟨gb, h1, h2, h3⟩ := hs
   exact ⟨gb, h1, h2.kept hg (fun r e => (hr r e).2), h3⟩)
  ?assign ?body ?done ?stop
 case assign =>
  intro l pre x W K hI hK
  have HB := hI.hb
  have SZ := zA hI.sz
  dsimp only [blkEnc]
  gi_wp2_with (first
   | ((with_reducible refine gate_dstIn (N := 5) rfl ?_);refine ev_allocIn HB rfl rfl (blkA fun _ => 0) 85 ?hr ?_;(case hr => (rw [← blkA_zero];go_simp;rfl));intro gb w8 G_gb GE_gb B_gb HBn K_gb KO_w8;clear HB;have HB := HBn;clear HBn)
   | ((with_reducible refine gate_In (Op.store 85 (.tmp 5) (.tmp 11)) rfl ?_);refine ev_storeIn HB B_gb GE_gb rfl 85 _ _ rfl rfl rfl (size64' _) (by rw [blkA_size, blkA_size]) (blkA_one _) ?_;intro w9 B9 HBn K_w9 KO_w9;clear HB;have HB := HBn;clear HBn))
  have hKO := KO_w8.out.trans KO_w9.out
  refine hK _ _ (hKO.from _) ?_ ?_ ⟨gb, zz2 SZ.out G_gb.out, B9, rfl⟩
  ·exact (Keep2.below K_gb.out (by have := SZ.out;omega) (by have := SZ.out;omega)).trans (Keep2.other K_w9 (by have := SZ.out;have := G_gb.out;omega) (by have := SZ.out;have := G_gb.out;omega))
  ·have N : ∀ g, g < w7.heap.size → g ≠ gb := fun g h => by have := SZ.out;have := G_gb.out;omega
   exact ⟨(hI.bs.below K_gb.out).other K_w9 (fun b m => N _ (PL.out.1 b m)), row_other (row_below hI.row K_gb.out) B_gb (by decide) K_w9, HB, zz2 SZ.out (zz2 K_gb.out.size K_w9.out.1)⟩
 case body =>
  rintro l pre x a' W hl ⟨r, hr⟩ hI ⟨gb, hgb, BX, rfl⟩ hlt
  clear hr hlt
  obtain ⟨hrl, (⟨_, hn0⟩ | ⟨g, cap, cur, rfl, hbg, BG, hnc, hcm, hcs, HA⟩)⟩ := row_open hI.row
  ·have := x.isLt;omega
  obtain ⟨old, hold⟩ : ∃ old, old = (foldM s pre).getD x.val 0 := ⟨_, rfl⟩
  obtain ⟨A, hA⟩ : ∃ A, A = iv (word fun j => decide (cutF s (64 * ((x.val : Nat) : Int)) 0 j = 34)) := ⟨_, rfl⟩
  have hget : ((foldM s pre).map (Value.int .u64))[x.val]? = some (.int .u64 old) := by
   have hl : x.val < (foldM s pre).length := by rw [foldM_length];exact x.isLt
   rw [List.getElem?_map, hold, List.getD_eq_getElem?_getD, List.getElem?_eq_getElem hl]
   rfl
  have EQ : Aside0 (∀ w, Calls Tryd.prog 56 #[.agg (blkA (cutF s (64 * ((x.val : Nat) : Int)) 0)), .int .u8 34] w fun e w' => e = .returned (.int .u64 A) ∧ Below w.heap.size w w') := ⟨fun w => by
   rw [hA]
   exact block_Equal.calls _ (fun i => cutF_range s _ 0 (by decide) i) 34 (by decide) (by decide) w⟩
  have HG := zA (HA.get hget)
  have HXI := zA (show x.val < cur.size by have := x.isLt;omega)
  have HN := zA (And.intro hrl (And.intro hbg (And.intro hnc (And.intro hcm hcs))))
  have HAA := zA HA
  have HOA := zA (And.intro hold hA)
  have hq1 : 64 * ((x.val : Nat) : Int) / 64 = ((x.val : Nat) : Int) := by omega
  have hq2 : Int.tdiv (64 * ((x.val : Nat) : Int)) 64 = ((x.val : Nat) : Int) := by rw [Int.tdiv_eq_ediv_of_nonneg (by omega)];omega
  have hq3 : (0 : Int) ≤ ((x.val : Nat) : Int) := by omega
  have hq4 : ((x.val : Nat) : Int) < ((nwords s.size : Nat) : Int) := by have := x.isLt;omega
  have hq5 : ((x.val : Nat) : Int) ≤ 4398046511104 := by have := x.isLt;unfold nwords at this;omega
  have hq6 : IntKind.i64.wrap ((x.val : Nat) : Int) = ((x.val : Nat) : Int) := by rw [i64_w];unfold wrap64;omega
  have hbd : Aside0 (Below W.heap.size W W.drew) := ⟨below_drew (Below.refl _ _)⟩
  have HI := zA hI
  have I' := hI.below hbd.out
  have BX' := BX.below hbd.out
  have BG' := BG.below hbd.out
  have KO' := zA (keepsOthers_below hbd.out)
  have HZ' := zA hbd.out.size
  clear hrl hbg BG hnc hcm hcs HA hold hA hget BX hI
  gi_upto_region 5 with (fail)
  refine wpIn_region_last_drew HF (S := fun W' => Blk W' g3 #[.int .i64 s.size, .slice (some ⟨g, 0, none⟩) (nwords s.size) cap] 34 ∧ Blk W' gb (blkA (cutF s (64 * ((x.val : Nat) : Int)) 0)) 85 ∧ Blk W' g cur 75) (ds := [14]) (by kernel_rfl) (by kernel_rfl) ⟨I'.bs.out _ PM.out.1, BX', BG'⟩ (fun hS => ?_)
  refine' zM (i := 0) (oi := Oper.mk _ _ _ _ _ _) rfl (by kernel_rfl) (by kernel_rfl) (by kernel_rfl) (by kernel_rfl) (by kernel_rfl) (fun _ _ _ h => h) (Or.inl ⟨by rfl, ?hy1⟩) hS ?rest1
  case hy1 => (intro w hSw;(try dsimp only at hSw);first|(go_simp;done)|(go_simp;with_reducible rfl))
  try simp only [Act.put, zB, zC, zD]
  refine zM (i := 1) (oi := Oper.mk _ _ _ _ _ _) rfl (by kernel_rfl) (by kernel_rfl) (by kernel_rfl) (by kernel_rfl) (by kernel_rfl) (fun _ _ _ h => h) (rg_load1 (by rfl) (fun _ hS => hS.1.cell (i := 1) rfl) 32 _ rfl rfl (fun _ => by simp [isAgg, run_underlying Tryd.underlying32])) hS ?_
  try simp only [Act.put, zB, zC, zD]
  refine' zM (i := 2) (oi := Oper.mk _ _ _ _ _ _) rfl (by kernel_rfl) (by kernel_rfl) (by kernel_rfl) (by kernel_rfl) (by kernel_rfl) (fun _ _ _ h => h) (Or.inl ⟨by rfl, ?hy2⟩) hS ?rest2
  case hy2 => (intro w hSw;(try dsimp only at hSw);first|(go_simp;done)|(go_simp;with_reducible rfl))
  try simp only [Act.put, zB, zC, zD]
  refine' zM (i := 3) (oi := Oper.mk _ _ _ _ _ _) rfl (by kernel_rfl) (by kernel_rfl) (by kernel_rfl) (by kernel_rfl) (by kernel_rfl) (fun _ _ _ h => h) (Or.inl ⟨by rfl, ?hy3⟩) hS ?rest3
  case hy3 => (intro w hSw;(try dsimp only at hSw);first|(go_simp;done)|(go_simp;with_reducible rfl))
  try simp only [Act.put, zB, zC, zD]
  refine zM (i := 4) (oi := Oper.mk _ _ _ _ _ _) rfl (by kernel_rfl) (by kernel_rfl) (by kernel_rfl) (by kernel_rfl) (by kernel_rfl) (fun _ _ _ h => h) (rg_load (by rfl) (fun _ hS => hS.2.1) 85 _ rfl rfl Tryd.underlying85 rfl (size64' _)) hS ?_
  try simp only [Act.put, zB, zC, zD]
  refine' zM (i := 6) (oi := Oper.mk _ _ _ _ _ _) rfl (by kernel_rfl) (by kernel_rfl) (by kernel_rfl) (by kernel_rfl) (by kernel_rfl) (fun _ _ _ h => h) (Or.inl ⟨by rfl, ?hy4⟩) hS ?rest4
  case hy4 => (intro w hSw;(try dsimp only at hSw);first|(go_simp;done)|(go_simp;with_reducible rfl))
  try simp only [Act.put, zB, zC, zD]
  refine zM (i := 7) (oi := Oper.mk _ _ _ _ _ _) rfl (by kernel_rfl) (by kernel_rfl) (by kernel_rfl) (by kernel_rfl) (by kernel_rfl) (fun _ _ _ h => h) (rg_load1 (by rfl) (fun _ hS => hS.1.cell (i := 1) rfl) 32 _ rfl rfl (fun _ => by simp [isAgg, run_underlying Tryd.underlying32])) hS ?_
  try simp only [Act.put, zB, zC, zD]
  refine' zM (i := 8) (oi := Oper.mk _ _ _ _ _ _) rfl (by kernel_rfl) (by kernel_rfl) (by kernel_rfl) (by kernel_rfl) (by kernel_rfl) (fun _ _ _ h => h) (Or.inl ⟨by rfl, ?hy5⟩) hS ?rest5
  case hy5 => (intro w hSw;(try dsimp only at hSw);first|(go_simp;done)|(go_simp;with_reducible rfl))
  try simp only [Act.put, zB, zC, zD]
  refine' zM (i := 9) (oi := Oper.mk _ _ _ _ _ _) rfl (by kernel_rfl) (by kernel_rfl) (by kernel_rfl) (by kernel_rfl) (by kernel_rfl) (fun _ _ _ h => h) (Or.inl ⟨by rfl, ?hy6⟩) hS ?rest6
  case hy6 => (intro w hSw;(try dsimp only at hSw);first|(go_simp;done)|(go_simp;with_reducible rfl))
  try simp only [Act.put, zB, zC, zD]
  refine' zM (i := 10) (oi := Oper.mk _ _ _ _ _ _) rfl (by kernel_rfl) (by kernel_rfl) (by kernel_rfl) (by kernel_rfl) (by kernel_rfl) (fun _ _ _ h => h) (Or.inl ⟨by rfl, ?hy7⟩) hS ?rest7
  case hy7 => (intro w hSw;(try dsimp only at hSw);first|(go_simp;done)|(go_simp;with_reducible rfl))
  try simp only [Act.put, zB, zC, zD]
  refine zM (i := 11) (oi := Oper.mk _ _ _ _ _ _) rfl (by kernel_rfl) (by kernel_rfl) (by kernel_rfl) (by kernel_rfl) (by kernel_rfl) (fun _ _ _ h => h) (rg_load1 (by rfl) (fun _ hS => hS.2.2.cell HG.out) 75 _ rfl rfl (fun _ => by simp [isAgg, run_underlying Tryd.underlying75])) hS ?_
  try simp only [Act.put, zB, zC, zD]
  refine wpAnyLast_ready (rs := [5]) (by kernel_rfl) (by simp) ?_
  refine AllReadyL.cons (o := Oper.mk _ _ _ _ _ _) rfl (by decide) (fun K hK => ?_) ?_
  ·refine rg_call (by rfl) _ _ (.int .u64 A) (by first|(go_simp;done)|(go_simp;rfl)) (EQ.out _) ?_
   intro W' hb
   have I2 := I'.below hb.out
   have BX2 := BX'.below hb.out
   have BG2 := BG'.below hb.out
   have KO2 := zA (KO'.out.trans (keepsOthers_below hb.out))
   have HZ2 := zA (zz2 HZ'.out hb.out.size)
   clear I' BX' BG' KO' HZ'
   refine hK.out _ _ ⟨I2.bs.out _ PM.out.1, BX2, BG2⟩ (fun hS => ?_)
   clear hK K
   try simp only [Act.put, zB, zC, zD]
   refine' zM (i := 12) (oi := Oper.mk _ _ _ _ _ _) rfl (by kernel_rfl) (by kernel_rfl) (by kernel_rfl) (by kernel_rfl) (by kernel_rfl) (fun _ _ _ h => h) (Or.inl ⟨by rfl, ?hy8⟩) hS ?rest8
   case hy8 => (intro w hSw;(try dsimp only at hSw);first|(go_simp;done)|(go_simp;with_reducible rfl))
   try simp only [Act.put, zB, zC, zD]
   refine' zM (i := 13) (oi := Oper.mk _ _ _ _ _ _) rfl (by kernel_rfl) (by kernel_rfl) (by kernel_rfl) (by kernel_rfl) (by kernel_rfl) (fun _ _ _ h => h) (Or.inl ⟨by rfl, ?hy9⟩) hS ?rest9
   case hy9 => (intro w hSw;(try dsimp only at hSw);first|(go_simp;done)|(go_simp;with_reducible rfl))
   try simp only [Act.put, zB, zC, zD]
   refine wpAnyLast_ready (rs := [14]) (by kernel_rfl) (by simp) ?_
   refine AllReadyL.cons_last (o := Oper.mk _ _ _ _ _ _) rfl (by decide) (fun K hK => ?_) ?_
   ·refine rg_store1 I2.hb (by rfl) BG2 (zA HN.out.2.1) 75 _ _ rfl rfl _ rfl HXI.out (by kernel_rfl) rfl ?_
    intro w3 B3 HB3 K3
    have E3 := I2.bs.other K3 (fun b m => (I2.bs.out b m).ne BG2 (PL.out.2 b m))
    have KO3 := zA (KO2.out.trans (keepsOthers_other BG2 K3))
    have HZ3 := zA (zz2 HZ2.out K3.out.1)
    refine hK.out _ _ ?_
    clear hK K
    try simp only [Act.put, zB, zC, zD]
    refine wpAnyLast_done (by kernel_rfl) ?_ _
    refine Straight.normal ?_
    gi_wp2
    refine ⟨KO3.out.from _, Keep2.of_blk (HI.out.bs.out _ PM.out.2.2.1) (HI.out.bs.out _ PM.out.2.2.2) (E3.out _ PM.out.2.2.1) (E3.out _ PM.out.2.2.2) HZ3.out, E3, ?_, HB3, zz2 HI.out.sz HZ3.out⟩
    obtain ⟨hrl, hbg, hnc, hcm, hcs⟩ := HN.out
    obtain ⟨hold, hA⟩ := HOA.out
    refine row_shut hbg B3 hnc hcm (by rw [Array.size_setIfInBounds];exact hcs) (by rw [List.length_map, foldM_length]) ?_
    rw [foldM_snoc]
    unfold stepM
    rw [List.map_set, ← hold, ← hA]
    exact HAA.out.set _ _
   exact AllReadyL.nil
  exact AllReadyL.nil
 case done =>
  rintro D ys W hD rfl hI hK
  have b3 := hI.bs.out _ PM.out.1
  have b2 := hI.bs.out _ PM.out.2.1
  have hrow := hI.row
  have HB := hI.hb
  have HD := zA hD
  have HKD := zA hK
  clear hK hD
  gi_wp2_with (first
   | ((with_reducible refine gate_dstIn (N := 26) rfl ?_);refine ev_loadSIn b3 rfl 34 _ rfl rfl Tryd.underlying34 rfl (by kernel_rfl) ?_)
   | ((with_reducible refine gate_In (Op.store 34 (.tmp 2) (.tmp 26)) rfl ?_);refine ev_storeIn HB b2 GE_g2 rfl 34 _ _ rfl rfl rfl (by kernel_rfl) rfl (by simp [Value.oneCell'];exact V1.out) ?_;intro w8 B8 HB8 K8 KO8))
  have HK8 := KO8.out.same D _ HKD.out rfl
  have hrow8 := row_other hrow b2 (by decide) K8
  have hg := grownBy_putObj' w8 D (.deferred none)
  have hr : ∀ r, some D = some r → ∃ o : Obj, w8.heap[r]? = some o ∧ o.isCells = false := fun r e => by
   cases e
   exact ⟨_, HK8, rfl⟩
  have hle : w.heap.size ≤ D := zz2 HBW.le HD.out
  refine ⟨by simp, .inl ⟨_, _, rfl, run_takeDeferred HK8, ?_⟩⟩
  refine ⟨_, results_cell_row rfl _ _ g2 34 _ (0, 0) _ rfl (B8.kept hg hr).out Tryd.underlying34 rfl (by kernel_rfl), v1, rfl, ?_, (HB8.kept hg hle (fun r e => by cases e;exact Nat.le_refl _)).out⟩
  have h1 := row_kept hrow8 hg hr
  rw [foldM_all] at h1
  exact h1
 case stop =>
  rintro D c pre W _ _ h _
  exact h.elim
end


section
open Go.Proofs.YtgddljealeklkaaDoorQ Go.Proofs.YtgddljealeklkaaDoorM
set_option maxHeartbeats 1000000 in
set_option maxRecDepth 100000 in
theorem words_Prefix.bits_ (q : Nat → Bool) (w : World) :
  Calls Tryd.prog 96 #[.int .u64 (iv (word q))] w fun e w' => e = .returned (.int .u64 (iv (word (px q 64)))) ∧ w' = w := by
 go_enter Tryd.func96, Tryd.ntmps96
 go_wp2
 go_loop [0, 3] (fun v0 v3 => ∃ e : Nat, e ≤ 6 ∧ v3 = .int .i64 ((2 ^ e : Nat) : Int) ∧ v0 = .int .u64 (iv (word (px q (2 ^ e))))) (fun _ v3 => 64 - (intOf v3).toNat)
 case atStart => exact ⟨0, by decide, rfl, by rw [show (2 ^ 0 : Nat) = 1 from rfl, px_start]⟩
 case round =>
  obtain ⟨e, he, rfl, rfl⟩ := hrel
  rcases (by omega : e = 0 ∨ e = 1 ∨ e = 2 ∨ e = 3 ∨ e = 4 ∨ e = 5 ∨ e = 6) with rfl|rfl|rfl|rfl|rfl|rfl|rfl
  ·obtain ⟨x, hx⟩ : ∃ x, x = iv (word (px q 1)) := ⟨_, rfl⟩
   have ST := zA (px_step q 1 (by decide) 2 (by decide))
   rw [← hx] at ST
   rw [show iv (word (px q (2 ^ 0))) = x by rw [hx]]
   clear hx
   go_wp2
   go_round
   case rel => exact ⟨1, by decide, rfl, congrArg (Value.int .u64) ST.out⟩
   case measure => decide
  ·obtain ⟨x, hx⟩ : ∃ x, x = iv (word (px q 2)) := ⟨_, rfl⟩
   have ST := zA (px_step q 2 (by decide) 4 (by decide))
   rw [← hx] at ST
   rw [show iv (word (px q (2 ^ 1))) = x by rw [hx]]
   clear hx
   go_wp2
   go_round
   case rel => exact ⟨2, by decide, rfl, congrArg (Value.int .u64) ST.out⟩
   case measure => decide
  ·obtain ⟨x, hx⟩ : ∃ x, x = iv (word (px q 4)) := ⟨_, rfl⟩
   have ST := zA (px_step q 4 (by decide) 16 (by decide))
   rw [← hx] at ST
   rw [show iv (word (px q (2 ^ 2))) = x by rw [hx]]
   clear hx
   go_wp2
   go_round
   case rel => exact ⟨3, by decide, rfl, congrArg (Value.int .u64) ST.out⟩
   case measure => decide
  ·obtain ⟨x, hx⟩ : ∃ x, x = iv (word (px q 8)) := ⟨_, rfl⟩
   have ST := zA (px_step q 8 (by decide) 256 (by decide))
   rw [← hx] at ST
   rw [show iv (word (px q (2 ^ 3))) = x by rw [hx]]
   clear hx
   go_wp2
   go_round
   case rel => exact ⟨4, by decide, rfl, congrArg (Value.int .u64) ST.out⟩
   case measure => decide
  ·obtain ⟨x, hx⟩ : ∃ x, x = iv (word (px q 16)) := ⟨_, rfl⟩
   have ST := zA (px_step q 16 (by decide) 65536 (by decide))
   rw [← hx] at ST
   rw [show iv (word (px q (2 ^ 4))) = x by rw [hx]]
   clear hx
   go_wp2
   go_round
   case rel => exact ⟨5, by decide, rfl, congrArg (Value.int .u64) ST.out⟩
   case measure => decide
  ·obtain ⟨x, hx⟩ : ∃ x, x = iv (word (px q 32)) := ⟨_, rfl⟩
   have ST := zA (px_step q 32 (by decide) 4294967296 (by decide))
   rw [← hx] at ST
   rw [show iv (word (px q (2 ^ 5))) = x by rw [hx]]
   clear hx
   go_wp2
   go_round
   case rel => exact ⟨6, by decide, rfl, congrArg (Value.int .u64) ST.out⟩
   case measure => decide
  ·go_wp2
   go_ret
   exact ⟨rfl, rfl⟩
end


section
open Go.Proofs.YtgddljealeklkaaDoorQ Go.Proofs.YtgddljealeklkaaDoorM
theorem turned_cell {w : World} {gc : Nat} {u : Value} {t : TypeId} (B : Blk w gc #[u] t) (n : Nat) (v : Value) : Blk ((w.drewN n).setCell ⟨gc, 0, none⟩ v) gc #[v] t ∧
  Aside0 (w.heap.size ≤ ((w.drewN n).setCell ⟨gc, 0, none⟩ v).heap.size ∧ ∀ k, k ≠ gc → ((w.drewN n).setCell ⟨gc, 0, none⟩ v).heap[k]? = w.heap[k]?) ∧ Aside0 (∀ b, b ≤ gc → Below b w ((w.drewN n).setCell ⟨gc, 0, none⟩ v)) :=
 ⟨(B.drewN n).set 0 v, ⟨by simp [World.setCell], fun k hk => Below.heap_setCell (w.drewN n) ⟨gc, 0, none⟩ v k hk⟩, ⟨fun b hb => (zF (Below.refl b w) n).setCell hb _⟩⟩
set_option maxHeartbeats 1000000 in
set_option maxRecDepth 100000 in
theorem quotes_carry_inside.turns (q : Nat → Bool) (o : Bool) (gc : Nat) (w : World) (B : Blk w gc #[.int .u64 (iv (openW o))] 88) :
  Calls Tryd.prog 58 #[.pointer (some ⟨gc, 0, none⟩), .int .u64 (iv (word q))] w fun e w' => e = .returned (.int .u64 (iv (word fun j => par q (j + 1) ^^ o))) ∧
   Blk w' gc #[.int .u64 (iv (openW (par q 64 ^^ o)))] 88 ∧ Aside0 (w.heap.size ≤ w'.heap.size ∧ ∀ k, k ≠ gc → w'.heap[k]? = w.heap[k]?) ∧ Aside0 (∀ b, b ≤ gc → Below b w w') := by
 have c := B.cell (i := 0) rfl
 have fz := B.frozen 0
 obtain ⟨z, hz⟩ : ∃ z, z = iv (openW o) := ⟨_, rfl⟩
 obtain ⟨x, hx⟩ : ∃ x, x = iv (word q) := ⟨_, rfl⟩
 obtain ⟨y, hy⟩ : ∃ y, y = iv (word (px q 64)) := ⟨_, rfl⟩
 obtain ⟨r, hr⟩ : ∃ r, r = iv (word fun j => par q (j + 1) ^^ o) := ⟨_, rfl⟩
 have PF : Aside0 (∀ w, Calls Tryd.prog 96 #[.int .u64 x] w fun e w' => e = .returned (.int .u64 y) ∧ w' = w) := ⟨fun w => by rw [hx, hy];exact words_Prefix.bits_ q w⟩
 have RV : bits .xor .u64 y z = r := by rw [hy, hz, hr];exact in_word q o
 have TV : Aside0 (IntKind.u64.wrap (-(r / 9223372036854775808)) = iv (openW (par q 64 ^^ o))) := ⟨by rw [hr];exact turn_word fun j => par q (j + 1) ^^ o⟩
 rw [← hz] at c
 rw [← hx, ← hr]
 have BB := zA B
 clear B hz hx hy hr
 go_enter Tryd.func58, Tryd.ntmps58
 go_wp2
 go_quiet ((go_at_call 96;exact Calls.quiet_of_same (PF.out _)))
 go_wp2
 rw [TV.out]
 go_ret
 exact ⟨rfl, turned_cell BB.out _ _⟩
end


section
open Go.Proofs.YtgddljealeklkaaDoorQ Go.Proofs.YtgddljealeklkaaDoorM
set_option maxHeartbeats 4000000 in
set_option maxRecDepth 100000 in
theorem quotes_each.turns (n : Nat) (hn : n ≤ 281474976702464) (q : Nat → Bool) (gc base : Nat) (v : Value) (w0 w : World) (H0 : BelowH w0 w) (Bc : Blk w gc #[.int .u64 (iv (openW false))] 88) (hgc : w0.heap.size ≤ gc) (hbase : w0.heap.size ≤ base)
  (hrow : w.ownsRow base 75 1 v (nwords n) ((wordsOf n q).map (Value.int .u64))) :
  Calls Tryd.prog 57 #[.agg #[.int .i64 (n : Int), v], .func (.func 58) #[.pointer (some ⟨gc, 0, none⟩)] #[]] w fun e w' => e = .returned (.agg #[.int .i64 (n : Int), v]) ∧
   w'.ownsRow base 75 1 v (nwords n) ((wordsOf n (insq q)).map (Value.int .u64)) ∧ BelowH w0 w' := by
 have V1 := zA (row_one hrow)
 obtain ⟨ad, cp, rfl⟩ := own_slice hrow
 have HB := H0
 clear H0
 have HGC := zA hgc
 have HBA := zA hbase
 have HR := zA hrow
 have LC := Bc.lt
 obtain ⟨nw, hnw⟩ : ∃ nw, nw = nwords n := ⟨_, rfl⟩
 have HNW := zA hnw
 have hnb : (nw : Int) ≤ 4398046511104 := by rw [hnw];unfold nwords;omega
 clear hgc hbase hrow
 rw [← hnw] at HR ⊢
 rw [← hnw] at V1
 clear hnw
 go_enter Tryd.func57, Tryd.ntmps57
 go_upto_region 1 with (first
  | ((with_reducible refine gate_dst (N := 2) rfl ?_);refine ev_alloc HB rfl (#[.int .i64 (n : Int), .slice ad nw cp]) 34 ?hr ?_;(case hr => first|(go_simp;done)|(go_simp;rfl));intro g2 w2 G_g2 GE_g2 B_g2 HBn K_g2;clear HB;have HB := HBn;clear HBn)
  | ((with_reducible refine gate_dst (N := 4) rfl ?_);refine ev_alloc HB rfl (#[.int .i64 0, .slice none 0 0]) 34 ?hr ?_;(case hr => first|(go_simp;done)|(go_simp;rfl));intro g4 w4 G_g4 GE_g4 B_g4 HBn K_g4;clear HB;have HB := HBn;clear HBn))
 have Bc4 := (Bc.below K_g2.out).below K_g4.out
 have B24 := B_g2.below K_g4.out
 have R4 := zA (row_below (row_below HR.out K_g2.out) K_g4.out)
 have N24 := zA (show gc < g2 ∧ g2 < g4 by have := G_g2.out;have := B_g2.lt;have := G_g4.out;omega)
 have c20 := B24.cell (i := 0) rfl
 have c21 := B24.cell (i := 1) rfl
 rw [← insL_zero] at R4
 have O4 := zA (show Blk w4 gc #[.int .u64 (iv (openW (par (cutQ n q) (64 * 0))))] 88 from Bc4)
 clear HR Bc Bc4 B_g2 K_g2 K_g4 G_g2 G_g4 LC
 go_wp2
 go_loopw [11] (fun v11 wr => ∃ k : Nat, v11 = .int .i64 (k : Int) ∧ Aside0 (k ≤ nw) ∧ Aside0 (wr.ownsRow base 75 1 (.slice ad nw cp) nw ((insL n q k).map (Value.int .u64))) ∧ Aside0 (Blk wr gc #[.int .u64 (iv (openW (par (cutQ n q) (64 * k))))] 88) ∧
   Blk wr g2 #[.int .i64 (n : Int), .slice ad nw cp] 34 ∧ Blk wr g4 #[.int .i64 0, .slice none 0 0] 34 ∧ BelowH w0 wr) (fun v11 _ => nw - (intOf v11).toNat)
 case atStart => exact ⟨0, rfl, ⟨Nat.zero_le _⟩, R4, O4, B24, B_g4, HB⟩
 case round =>
  clear R4 O4 B24 B_g4 HB c20 c21
  obtain ⟨k, rfl, HK, R, O, B2, B4, HB⟩ := hrel
  by_cases hlt : k < nw
  ·have HLT := zA hlt
   obtain ⟨hrl, (⟨_, hn0⟩ | ⟨g, cap, cur, he, hbg, BG, hnc, hcm, hcs, HA⟩)⟩ := row_open R.out
   ·omega
   injection he with he1 he2 he3
   subst he1
   subst he3
   clear he2
   have hget : ((insL n q k).map (Value.int .u64))[k]? = some (.int .u64 (iv (wordAt n q k))) := by
    rw [List.getElem?_map, insL_at n q (by rw [← HNW.out];exact hlt)]
    rfl
   obtain ⟨x, hx⟩ : ∃ x, x = iv (wordAt n q k) := ⟨_, rfl⟩
   obtain ⟨y, hy⟩ : ∃ y, y = iv (word fun j => par (fun i => cutQ n q (64 * k + i)) (j + 1) ^^ par (cutQ n q) (64 * k)) := ⟨_, rfl⟩
   rw [← hx] at hget
   have HG := zA (HA.get hget)
   have IN : Aside0 (∀ W, Blk W gc #[.int .u64 (iv (openW (par (cutQ n q) (64 * k))))] 88 → Calls Tryd.prog 58 #[.pointer (some ⟨gc, 0, none⟩), .int .u64 x] W fun e w' => e = .returned (.int .u64 y) ∧
     (Blk w' gc #[.int .u64 (iv (openW (par (cutQ n q) (64 * (k + 1)))))] 88 ∧ Aside0 (W.heap.size ≤ w'.heap.size ∧ ∀ k, k ≠ gc → w'.heap[k]? = W.heap[k]?) ∧ Aside0 (∀ b, b ≤ gc → Below b W w'))) := ⟨fun W B => by
    have h := quotes_carry_inside.turns (fun i => cutQ n q (64 * k + i)) (par (cutQ n q) (64 * k)) gc W B
    rw [par_next] at h
    rw [hx, hy]
    exact h⟩
   have HXY := zA (And.intro hx hy)
   have HN := zA (And.intro hrl (And.intro hbg (And.intro hnc (And.intro hcm hcs))))
   have HAA := zA HA
   have cw := BG.cell (HA.get hget)
   have c20 := B2.cell (i := 0) rfl
   have c21 := B2.cell (i := 1) rfl
   have hq1 : (k : Int) < (nw : Int) := by omega
   have hq2 : (0 : Int) ≤ (k : Int) := by omega
   have hq6 : IntKind.i64.wrap (k : Int) = (k : Int) := by rw [i64_w];unfold wrap64;omega
   have hbd : Aside0 (Below wr.heap.size wr wr.drew) := ⟨below_drew (Below.refl _ _)⟩
   have BG' := BG.below hbd.out
   have B2' := B2.below hbd.out
   have B4' := B4.below hbd.out
   have O' := zA (O.out.below hbd.out)
   have HB' := HB.step hbd.out
   clear hx hy hrl hbg hnc hcm hcs HA hget R hlt
   go_upto_region 4 with (fail)
   clear cw c20 c21 BG B2 B4 O HB hbd
   refine wp_region_noPanic ?_
   refine wp_region_last_drew (S := fun W' => Blk W' g2 #[.int .i64 (n : Int), .slice (some ⟨g, 0, none⟩) nw cp] 34) (ds := [7]) (by kernel_rfl) B2' (fun hS => ?_)
   refine' zM (i := 0) (oi := Oper.mk _ _ _ _ _ _) rfl (by kernel_rfl) (by kernel_rfl) (by kernel_rfl) (by kernel_rfl) (by kernel_rfl) (fun _ _ _ h => h) (Or.inl ⟨by rfl, ?hy1⟩) hS ?rest1
   case hy1 => (intro w hSw;(try dsimp only at hSw);first|(go_simp;done)|(go_simp;with_reducible rfl))
   try simp only [Act.put, zB, zC, zD]
   refine zM (i := 1) (oi := Oper.mk _ _ _ _ _ _) rfl (by kernel_rfl) (by kernel_rfl) (by kernel_rfl) (by kernel_rfl) (by kernel_rfl) (fun _ _ _ h => h) (rg_load1 (by rfl) (fun _ hS => hS.cell (i := 1) rfl) 32 _ rfl rfl (fun _ => by simp [isAgg, run_underlying Tryd.underlying32])) hS ?_
   try simp only [Act.put, zB, zC, zD]
   refine' zM (i := 2) (oi := Oper.mk _ _ _ _ _ _) rfl (by kernel_rfl) (by kernel_rfl) (by kernel_rfl) (by kernel_rfl) (by kernel_rfl) (fun _ _ _ h => h) (Or.inl ⟨by rfl, ?hy2⟩) hS ?rest2
   case hy2 => (intro w hSw;(try dsimp only at hSw);first|(go_simp;done)|(go_simp;with_reducible rfl))
   try simp only [Act.put, zB, zC, zD]
   refine' zM (i := 3) (oi := Oper.mk _ _ _ _ _ _) rfl (by kernel_rfl) (by kernel_rfl) (by kernel_rfl) (by kernel_rfl) (by kernel_rfl) (fun _ _ _ h => h) (Or.inl ⟨by rfl, ?hy3⟩) hS ?rest3
   case hy3 => (intro w hSw;(try dsimp only at hSw);first|(go_simp;done)|(go_simp;with_reducible rfl))
   try simp only [Act.put, zB, zC, zD]
   refine' zM (i := 4) (oi := Oper.mk _ _ _ _ _ _) rfl (by kernel_rfl) (by kernel_rfl) (by kernel_rfl) (by kernel_rfl) (by kernel_rfl) (fun _ _ _ h => h) (Or.inl ⟨by rfl, ?hy4⟩) hS ?rest4
   case hy4 => (intro w hSw;(try dsimp only at hSw);first|(go_simp;done)|(go_simp;with_reducible rfl))
   try simp only [Act.put, zB, zC, zD]
   refine wpAnyLast_ready (rs := [5]) (by kernel_rfl) (by simp) ?_
   refine AllReadyL.cons (o := Oper.mk _ _ _ _ _ _) rfl (by decide) (fun K hK => ?_) ?_
   ·refine rg_callP (by rfl) _ _ (.int .u64 y) (by first|(go_simp;done)|(go_simp;rfl)) (IN.out _ O'.out) ?_
    intro W2 hP
    obtain ⟨O2, K2, LO2⟩ := hP.out
    have N2c : g2 ≠ gc := by have := N24.out;omega
    have N4c : g4 ≠ gc := by have := N24.out;omega
    have B22 := B2'.other K2 N2c
    have B42 := B4'.other K2 N4c
    have Ngc : g ≠ gc := Ne.symm (O'.out.ne BG' (by decide))
    have BG2 := BG'.other K2 Ngc
    have HB2 : BelowH w0 W2 := ⟨HB'.out.trans (LO2.out _ HGC.out)⟩
    refine hK.out _ _ B22 (fun hS => ?_)
    clear hK K O' B2' B4' BG' HB' hP K2 LO2
    try simp only [Act.put, zB, zC, zD]
    refine' zM (i := 6) (oi := Oper.mk _ _ _ _ _ _) rfl (by kernel_rfl) (by kernel_rfl) (by kernel_rfl) (by kernel_rfl) (by kernel_rfl) (fun _ _ _ h => h) (Or.inl ⟨by rfl, ?hy5⟩) hS ?rest5
    case hy5 => (intro w hSw;(try dsimp only at hSw);first|(go_simp;done)|(go_simp;with_reducible rfl))
    try simp only [Act.put, zB, zC, zD]
    refine wpAnyLast_ready (rs := [7]) (by kernel_rfl) (by simp) ?_
    refine AllReadyL.cons_last (o := Oper.mk _ _ _ _ _ _) rfl (by decide) (fun K hK => ?_) ?_
    ·refine rg_store1 HB2 (by rfl) BG2 (zA (zz2 HBA.out HN.out.2.1)) 75 _ _ rfl rfl _ rfl (by have := HLT.out;have := HN.out;omega) (by kernel_rfl) rfl ?_
     intro w3 B3 HB3 K3
     have B23 := B22.other K3 (B22.ne BG2 (by decide))
     have B43 := B42.other K3 (B42.ne BG2 (by decide))
     have O3 := O2.other K3 (Ne.symm Ngc)
     refine hK.out _ _ ?_
     clear hK K
     try simp only [Act.put, zB, zC, zD]
     refine wpAnyLast_done (by kernel_rfl) ?_ _
     refine NoPanic.normal ?_
     go_wp2
     go_roundw
     case rel =>
      refine ⟨k + 1, by go_num, ⟨by have := HLT.out;omega⟩, ⟨?_⟩, ⟨O3⟩, B23, B43, HB3⟩
      obtain ⟨hrl, hbg, hnc, hcm, hcs⟩ := HN.out
      refine row_shut hbg B3 hnc hcm (by rw [Array.size_setIfInBounds];exact hcs) (by rw [List.length_map, insL_length, HNW.out]) ?_
      rw [← insL_step n q (by rw [← HNW.out];exact HLT.out) HXY.out.2, List.map_set]
      exact HAA.out.set _ _
     case measure => (simp [intOf];have := HLT.out;omega)
    exact AllReadyL.nil
   exact AllReadyL.nil
  ·obtain rfl : k = nw := by have := HK.out;omega
   have c20 := B2.cell (i := 0) rfl
   have c21 := B2.cell (i := 1) rfl
   obtain ⟨r, hr⟩ : ∃ r : Nat, r = n % 64 := ⟨_, rfl⟩
   have hm1 : (n : Int) % 64 = (r : Int) := by omega
   have hm2 : Int.tmod (n : Int) 64 = (r : Int) := by rw [Int.tmod_eq_emod_of_nonneg (by omega)];omega
   have hm0 : (0 : Int) ≤ (n : Int) := by omega
   have HRR := zA hr
   clear hlt
   by_cases h0 : 0 < r
   ·have h1 : decide ((0 : Int) < (r : Int)) = true := zz1 (by omega)
    have h2 : decide (0 < r) = true := zz1 h0
    have H0 := zA h0
    have hk0 : 0 < k := by have e1 := HNW.out;have e2 := HRR.out;unfold nwords at e1;omega
    obtain ⟨hrl, (⟨_, hn0⟩ | ⟨g, cap, cur, he, hbg, BG, hnc, hcm, hcs, HA⟩)⟩ := row_open R.out
    ·omega
    injection he with he1 he2 he3
    subst he1
    subst he3
    clear he2
    obtain ⟨m, hm⟩ : ∃ m : Nat, m = k - 1 := ⟨_, rfl⟩
    obtain ⟨x, hx⟩ : ∃ x, x = (insL n q (nwords n)).getD (nwords n - 1) 0 := ⟨_, rfl⟩
    have hget : ((insL n q k).map (Value.int .u64))[m]? = some (.int .u64 x) := by
     have hl : m < (insL n q k).length := by rw [insL_length, ← HNW.out];omega
     rw [hx, ← HNW.out, ← hm, List.getElem?_map, List.getD_eq_getElem?_getD, List.getElem?_eq_getElem hl]
     rfl
    have HG := zA (HA.get hget)
    have HX := zA hx
    have HM := zA hm
    have HMC := zA (show m < cur.size by omega)
    have HN := zA (And.intro hrl (And.intro hbg (And.intro hnc (And.intro hcm hcs))))
    have HAA := zA HA
    have hq1 : (m : Int) < (k : Int) := by omega
    have hq2 : (0 : Int) ≤ (m : Int) := by omega
    have hq3 : IntKind.i64.wrap (m : Int) = (m : Int) := by rw [i64_w];unfold wrap64;omega
    have hq4 : IntKind.i64.wrap ((k : Int) - 1) = (m : Int) := by rw [i64_w];unfold wrap64;omega
    have hq5 : (r : Int) < 64 := by omega
    have hq6 : (0 : Int) ≤ (r : Int) := by omega
    have hbd : Aside0 (Below wr.heap.size wr wr.drew) := ⟨below_drew (Below.refl _ _)⟩
    have BG' := BG.below hbd.out
    have B2' := B2.below hbd.out
    have B4' := B4.below hbd.out
    have HB' := HB.step hbd.out
    clear hr h0 hk0 hrl hbg hnc hcm hcs HA hget hx hm R
    go_upto_region 8 with (fail)
    clear c20 c21 BG B2 B4 O HB hbd h1 h2 hm1 hm2
    refine wp_region_noPanic ?_
    refine wp_region_last_drew (S := fun W' => Blk W' g2 #[.int .i64 (n : Int), .slice (some ⟨g, 0, none⟩) k cp] 34 ∧ Blk W' g cur 75) (ds := [13]) (by kernel_rfl) ⟨B2', BG'⟩ (fun hS => ?_)
    refine' zM (i := 0) (oi := Oper.mk _ _ _ _ _ _) rfl (by kernel_rfl) (by kernel_rfl) (by kernel_rfl) (by kernel_rfl) (by kernel_rfl) (fun _ _ _ h => h) (Or.inl ⟨by rfl, ?hy6⟩) hS ?rest6
    case hy6 => (intro w hSw;(try dsimp only at hSw);first|(go_simp;done)|(go_simp;with_reducible rfl))
    try simp only [Act.put, zB, zC, zD]
    refine zM (i := 1) (oi := Oper.mk _ _ _ _ _ _) rfl (by kernel_rfl) (by kernel_rfl) (by kernel_rfl) (by kernel_rfl) (by kernel_rfl) (fun _ _ _ h => h) (rg_load1 (by rfl) (fun _ hS => hS.1.cell (i := 1) rfl) 32 _ rfl rfl (fun _ => by simp [isAgg, run_underlying Tryd.underlying32])) hS ?_
    try simp only [Act.put, zB, zC, zD]
    refine' zM (i := 2) (oi := Oper.mk _ _ _ _ _ _) rfl (by kernel_rfl) (by kernel_rfl) (by kernel_rfl) (by kernel_rfl) (by kernel_rfl) (fun _ _ _ h => h) (Or.inl ⟨by rfl, ?hy7⟩) hS ?rest7
    case hy7 => (intro w hSw;(try dsimp only at hSw);first|(go_simp;done)|(go_simp;with_reducible rfl))
    try simp only [Act.put, zB, zC, zD]
    refine zM (i := 3) (oi := Oper.mk _ _ _ _ _ _) rfl (by kernel_rfl) (by kernel_rfl) (by kernel_rfl) (by kernel_rfl) (by kernel_rfl) (fun _ _ _ h => h) (rg_load1 (by rfl) (fun _ hS => hS.1.cell (i := 1) rfl) 32 _ rfl rfl (fun _ => by simp [isAgg, run_underlying Tryd.underlying32])) hS ?_
    try simp only [Act.put, zB, zC, zD]
    refine' zM (i := 4) (oi := Oper.mk _ _ _ _ _ _) rfl (by kernel_rfl) (by kernel_rfl) (by kernel_rfl) (by kernel_rfl) (by kernel_rfl) (fun _ _ _ h => h) (Or.inl ⟨by rfl, ?hy8⟩) hS ?rest8
    case hy8 => (intro w hSw;(try dsimp only at hSw);first|(go_simp;done)|(go_simp;with_reducible rfl))
    try simp only [Act.put, zB, zC, zD]
    refine' zM (i := 5) (oi := Oper.mk _ _ _ _ _ _) rfl (by kernel_rfl) (by kernel_rfl) (by kernel_rfl) (by kernel_rfl) (by kernel_rfl) (fun _ _ _ h => h) (Or.inl ⟨by rfl, ?hy9⟩) hS ?rest9
    case hy9 => (intro w hSw;(try dsimp only at hSw);first|(go_simp;done)|(go_simp;with_reducible rfl))
    try simp only [Act.put, zB, zC, zD]
    refine' zM (i := 6) (oi := Oper.mk _ _ _ _ _ _) rfl (by kernel_rfl) (by kernel_rfl) (by kernel_rfl) (by kernel_rfl) (by kernel_rfl) (fun _ _ _ h => h) (Or.inl ⟨by rfl, ?hy10⟩) hS ?rest10
    case hy10 => (intro w hSw;(try dsimp only at hSw);first|(go_simp;done)|(go_simp;with_reducible rfl))
    try simp only [Act.put, zB, zC, zD]
    refine zM (i := 7) (oi := Oper.mk _ _ _ _ _ _) rfl (by kernel_rfl) (by kernel_rfl) (by kernel_rfl) (by kernel_rfl) (by kernel_rfl) (fun _ _ _ h => h) (rg_load1 (by rfl) (fun _ hS => hS.2.cell HG.out) 75 _ rfl rfl (fun _ => by simp [isAgg, run_underlying Tryd.underlying75])) hS ?_
    try simp only [Act.put, zB, zC, zD]
    refine' zM (i := 8) (oi := Oper.mk _ _ _ _ _ _) rfl (by kernel_rfl) (by kernel_rfl) (by kernel_rfl) (by kernel_rfl) (by kernel_rfl) (fun _ _ _ h => h) (Or.inl ⟨by rfl, ?hy11⟩) hS ?rest11
    case hy11 => (intro w hSw;(try dsimp only at hSw);first|(go_simp;done)|(go_simp;with_reducible rfl))
    try simp only [Act.put, zB, zC, zD]
    refine' zM (i := 9) (oi := Oper.mk _ _ _ _ _ _) rfl (by kernel_rfl) (by kernel_rfl) (by kernel_rfl) (by kernel_rfl) (by kernel_rfl) (fun _ _ _ h => h) (Or.inl ⟨by rfl, ?hy12⟩) hS ?rest12
    case hy12 => (intro w hSw;(try dsimp only at hSw);first|(go_simp;done)|(go_simp;with_reducible rfl))
    try simp only [Act.put, zB, zC, zD]
    refine' zM (i := 10) (oi := Oper.mk _ _ _ _ _ _) rfl (by kernel_rfl) (by kernel_rfl) (by kernel_rfl) (by kernel_rfl) (by kernel_rfl) (fun _ _ _ h => h) (Or.inl ⟨by rfl, ?hy13⟩) hS ?rest13
    case hy13 => (intro w hSw;(try dsimp only at hSw);first|(go_simp;done)|(go_simp;with_reducible rfl))
    try simp only [Act.put, zB, zC, zD]
    refine' zM (i := 11) (oi := Oper.mk _ _ _ _ _ _) rfl (by kernel_rfl) (by kernel_rfl) (by kernel_rfl) (by kernel_rfl) (by kernel_rfl) (fun _ _ _ h => h) (Or.inl ⟨by rfl, ?hy14⟩) hS ?rest14
    case hy14 => (intro w hSw;(try dsimp only at hSw);first|(go_simp;done)|(go_simp;with_reducible rfl))
    try simp only [Act.put, zB, zC, zD]
    refine' zM (i := 12) (oi := Oper.mk _ _ _ _ _ _) rfl (by kernel_rfl) (by kernel_rfl) (by kernel_rfl) (by kernel_rfl) (by kernel_rfl) (fun _ _ _ h => h) (Or.inl ⟨by rfl, ?hy15⟩) hS ?rest15
    case hy15 => (intro w hSw;(try dsimp only at hSw);first|(go_simp;done)|(go_simp;with_reducible rfl))
    try simp only [Act.put, zB, zC, zD]
    refine wpAnyLast_ready (rs := [13]) (by kernel_rfl) (by simp) ?_
    refine AllReadyL.cons_last (o := Oper.mk _ _ _ _ _ _) rfl (by decide) (fun K hK => ?_) ?_
    ·refine rg_store1 HB' (by rfl) BG' (zA (zz2 HBA.out HN.out.2.1)) 75 _ _ rfl rfl _ rfl HMC.out (by kernel_rfl) rfl ?_
     intro w3 B3 HB3 K3
     have B23 := B2'.other K3 (B2'.ne BG' (by decide))
     have B43 := B4'.other K3 (B4'.ne BG' (by decide))
     refine hK.out _ _ ?_
     clear hK K
     try simp only [Act.put, zB, zC, zD]
     refine wpAnyLast_done (by kernel_rfl) ?_ _
     refine NoPanic.normal ?_
     go_wp2_with (first
      | ((with_reducible refine gate_dst (N := 42) rfl ?_);refine ev_loadS B23 rfl 34 _ rfl rfl Tryd.underlying34 rfl (by kernel_rfl) ?_)
      | ((with_reducible refine gate_ (Op.store 34 (.tmp 4) (.tmp 42)) rfl ?_);refine ev_store HB3 B43 GE_g4 rfl 34 _ _ rfl rfl rfl (by kernel_rfl) rfl (by simp [Value.oneCell']) ?_;intro w5 B5 HB5 K5))
     refine bodyPost_ret (results_cell_row rfl _ _ g4 34 _ (0, 0) _ rfl B5.out Tryd.underlying34 rfl (by kernel_rfl)) rfl ?_
     refine ⟨rfl, ?_, HB5⟩
     obtain ⟨hrl, hbg, hnc, hcm, hcs⟩ := HN.out
     refine row_other (row_shut hbg B3 hnc hcm (by rw [Array.size_setIfInBounds];exact hcs) (by rw [List.length_map, wordsOf_length, HNW.out]) ?_) B43 (by decide) K5
     rw [← insL_part n q (by have := H0.out;have := HRR.out;omega) (v := bits .and .u64 x (IntKind.u64.wrap (IntKind.u64.wrap (2 ^ r) - 1))) (by rw [HX.out, HRR.out]), List.map_set, ← HNW.out, ← HM.out]
     exact HAA.out.set _ _
    exact AllReadyL.nil
   ·have h1 : decide ((0 : Int) < (r : Int)) = false := decide_eq_false (by omega)
    have h2 : decide (0 < r) = false := decide_eq_false h0
    have H0 := zA h0
    clear hr h0
    have B23 := B2
    have B43 := B4
    have HB3 := HB
    clear B2 B4 HB
    go_wp2_with (first
     | ((with_reducible refine gate_dst (N := 42) rfl ?_);refine ev_loadS B23 rfl 34 _ rfl rfl Tryd.underlying34 rfl (by kernel_rfl) ?_)
     | ((with_reducible refine gate_ (Op.store 34 (.tmp 4) (.tmp 42)) rfl ?_);refine ev_store HB3 B43 GE_g4 rfl 34 _ _ rfl rfl rfl (by kernel_rfl) rfl (by simp [Value.oneCell']) ?_;intro w5 B5 HB5 K5))
    refine bodyPost_ret (results_cell_row rfl _ _ g4 34 _ (0, 0) _ rfl B5.out Tryd.underlying34 rfl (by kernel_rfl)) rfl ?_
    refine ⟨rfl, ?_, HB5⟩
    have h := R.out
    rw [HNW.out, insL_full n q (by have := H0.out;have := HRR.out;omega), ← HNW.out] at h
    exact row_other h B43 (by decide) K5
end


section
open Go.Proofs.YtgddljealeklkaaDoorQ Go.Proofs.YtgddljealeklkaaDoorM
theorem carry_start : (#[.int .u64 0] : Array Value) = #[.int .u64 (iv (openW false))] := by rw [openW_no]
set_option maxHeartbeats 1000000 in
set_option maxRecDepth 100000 in
theorem quotes_Inside.walk (s : ByteArray) (w : World) (hs : s.size ≤ 281474976702464) :
  Calls Tryd.prog 19 #[.string s] w fun e w' => ∃ v1_ : Value, e = .returned (.agg #[.int .i64 s.size, v1_]) ∧ w'.ownsRow w.heap.size 75 1 v1_ (nwords s.size) ((wordsOf s.size (insq (mkq s))).map (Value.int .u64)) ∧ Below w.heap.size w w' := by
 have HB := BelowH.refl w
 go_enter Tryd.func19, Tryd.ntmps19
 go_upto_region 1 with (first
  | ((with_reducible refine gate_dst (N := 2) rfl ?_);refine ev_alloc HB rfl (#[.int .i64 0, .slice none 0 0]) 34 ?hr ?_;(case hr => first|(go_simp;done)|(go_simp;rfl));intro g2 w2 G_g2 GE_g2 B_g2 HBn K_g2;clear HB;have HB := HBn;clear HBn))
 have HB2 := HB
 go_wp2_with (first
  | ((with_reducible refine gate_dst (N := 3) rfl ?_);refine ev_alloc HB rfl (#[.int .u64 0]) 88 ?hr ?_;(case hr => first|(go_simp;done)|(go_simp;rfl));intro g3 w3 G_g3 GE_g3 B_g3 HBn K_g3;clear HB;have HB := HBn;clear HBn)
  | (go_at_call 18;refine (quotes_Marks.walk s _ hs).mono ?_;rintro e w4 ⟨v1, rfl, hrow, hb4⟩;have B3 := (B_g3.eqA carry_start).below hb4;have R4 := zA hrow;have V1 := zA (row_one hrow);have HB4 : BelowH w2 w4 := ⟨zN K_g3.out hb4⟩;clear hb4 hrow HB)
  | (go_at_call 57;refine (quotes_each.turns s.size hs (mkq s) g3 _ v1 w2 _ HB4 B3 G_g3.out K_g3.out.size R4.out).mono ?_;rintro e w5 ⟨rfl, hrow5, HB5⟩;have B25 := B_g2.below HB5.out;have HB := HB2.step HB5.out;have R5 := zA hrow5;clear hrow5)
  | ((with_reducible refine gate_ (Op.store 34 (.tmp 2) (.tmp 7)) rfl ?_);refine ev_store HB B25 GE_g2 rfl 34 _ _ rfl rfl rfl (by kernel_rfl) rfl (by simp [Value.oneCell'];exact V1.out) ?_;intro w6 B6 HB6 K6))
 refine bodyPost_ret (results_cell_row rfl _ _ g2 34 _ (0, 0) _ rfl B6.out Tryd.underlying34 rfl (by kernel_rfl)) rfl ?_
 exact ⟨v1, rfl, row_mono (row_other R5.out B25 (by decide) K6) (zz2 HB2.le K_g3.out.size), HB6.out⟩
end


end Go.Proofs.YtgddljealeklkaaDoor.PL
end
-- PLx2
section
namespace Go.Proofs.YtgddljealeklkaaDoor.PL
open Go.RowKit Go.Proofs.YtgddljealeklkaaDoorW.PrintWords Go.Proofs.YtgddljealeklkaaDoorW.PrintLast Go.Proofs.YtgddljealeklkaaDoorW.PrintMore
attribute [local go_sem] max2_int min2_int max_two min_two max_three min_three max_four min_four   -- for this text's walks alone
set_option linter.unusedVariables false
set_option linter.unusedSimpArgs false

section
open Go.Proofs.YtgddljealeklkaaDoorQ Go.Proofs.YtgddljealeklkaaDoorM
set_option maxHeartbeats 2000000 in
set_option maxRecDepth 100000 in
theorem marks_kindOf.tells (x : Nat) (hx : x < 256) (w : World) :
  Calls Tryd.prog 107 #[.int .u8 (x : Int)] w fun e w' => e = .returned (.int .i64 (kindN x)) ∧ Below w.heap.size w w' := by
 have HB := BelowH.refl w
 have H256 := zA hx
 clear hx
 go_enter Tryd.func107, Tryd.ntmps107
 go_upto_region 2 with (first
  | ((with_reducible refine gate_dst (N := 3) rfl ?_);refine ev_alloc HB rfl (#[.int .u8 0, .int .i64 0, .int .u8 0, .int .i64 0, .int .u8 0, .int .i64 0, .int .u8 0, .int .i64 0, .int .u8 0, .int .i64 0, .int .u8 0, .int .i64 0, .int .u8 0, .int .i64 0, .int .u8 0, .int .i64 0, .int .u8 0, .int .i64 0, .int .u8 0, .int .i64 0]) 140 ?hr ?_;(case hr => first|(go_simp;done)|(go_simp;rfl));intro g3 w1 G_g3 GE_g3 B_g3 HBn K_g3;clear HB;have HB := HBn;clear HBn)
  | ((with_reducible refine gate_ (Op.store 140 (.tmp 3) (.tmp 16)) rfl ?_);refine ev_store HB B_g3 GE_g3 rfl 140 _ _ rfl rfl rfl (by kernel_rfl) rfl (by simp [Value.oneCell']) ?_;intro w2 B3 HBn K_w2;clear HB;have HB := HBn;clear HBn))
 go_wp2_with (first
  | ((with_reducible refine gate_dst (N := 17) rfl ?_);refine ev_loadS B3 rfl 140 _ rfl rfl Tryd.underlying140 rfl (by kernel_rfl) ?_))
 clear B3 B_g3 K_w2 K_g3 G_g3 GE_g3
 go_loopw [18] (fun v18 wr => ∃ i : Nat, v18 = .int .i64 (i : Int) ∧ Aside0 (i ≤ 10) ∧ Aside0 (∀ j, j < i → kindsX.getD j 0 ≠ x) ∧ BelowH w wr) (fun v18 _ => 10 - (intOf v18).toNat)
 case atStart => exact ⟨0, rfl, ⟨by decide⟩, ⟨fun j hj => absurd hj (Nat.not_lt_zero j)⟩, HB⟩
 case round =>
  clear HB
  obtain ⟨i, rfl, HI, HJ, HB⟩ := hrel
  have hi := HI.out
  rcases (by omega : i = 0 ∨ i = 1 ∨ i = 2 ∨ i = 3 ∨ i = 4 ∨ i = 5 ∨ i = 6 ∨ i = 7 ∨ i = 8 ∨ i = 9 ∨ i = 10) with rfl|rfl|rfl|rfl|rfl|rfl|rfl|rfl|rfl|rfl|rfl
  ·clear hi
   have ix : ∀ w, (Instr.index 140 (.agg #[.int .u8 123, .int .i64 1, .int .u8 125, .int .i64 1, .int .u8 91, .int .i64 1, .int .u8 93, .int .i64 1, .int .u8 58, .int .i64 1, .int .u8 44, .int .i64 1, .int .u8 32, .int .i64 2, .int .u8 9, .int .i64 2, .int .u8 10, .int .i64 2, .int .u8 13, .int .i64 2]) (.int .i64 0)).run Tryd.prog w = .ok (.agg #[.int .u8 123, .int .i64 1]) w := fun _ => by kernel_rfl
   by_cases hx : x = 123
   ·have h1 : ((123 : Int) == (x : Int)) = true := by rw [hx];rfl
    have HX := zA hx
    clear hx
    go_wp2_with (first
     | ((with_reducible refine gate_dst (N := 5) rfl ?_);refine ev_alloc HB rfl (#[.int .u8 0, .int .i64 0]) 139 ?hr ?_;(case hr => first|(go_simp;done)|(go_simp;rfl));intro g5 w3 G_g5 GE_g5 B_g5 HBn K_g5;clear HB;have HB := HBn;clear HBn)
     | ((with_reducible refine gate_ (Op.store 139 (.tmp 5) (.tmp 20)) rfl ?_);refine ev_store HB B_g5 GE_g5 rfl 139 _ _ rfl rfl rfl (by kernel_rfl) rfl (by simp [Value.oneCell']) ?_;intro w4 B5 HBn K_w4;have c50 := B5.cell (i := 0) rfl;have c51 := B5.cell (i := 1) rfl;clear HB;have HB := HBn;clear HBn))
    go_ret
    exact ⟨by rw [HX.out];rfl, HB.out⟩
   ·have h1 : ((123 : Int) == (x : Int)) = false := beq_eq_false_iff_ne.mpr (by omega)
    have HX := zA hx
    clear hx
    go_wp2_with (first
     | ((with_reducible refine gate_dst (N := 5) rfl ?_);refine ev_alloc HB rfl (#[.int .u8 0, .int .i64 0]) 139 ?hr ?_;(case hr => first|(go_simp;done)|(go_simp;rfl));intro g5 w3 G_g5 GE_g5 B_g5 HBn K_g5;clear HB;have HB := HBn;clear HBn)
     | ((with_reducible refine gate_ (Op.store 139 (.tmp 5) (.tmp 20)) rfl ?_);refine ev_store HB B_g5 GE_g5 rfl 139 _ _ rfl rfl rfl (by kernel_rfl) rfl (by simp [Value.oneCell']) ?_;intro w4 B5 HBn K_w4;have c50 := B5.cell (i := 0) rfl;have c51 := B5.cell (i := 1) rfl;clear HB;have HB := HBn;clear HBn))
    go_roundw
    case rel => exact ⟨1, rfl, ⟨by decide⟩, ⟨kinds_next HJ.out (show kindsX.getD 0 0 ≠ x from fun e => HX.out e.symm)⟩, HB⟩
    case measure => decide
  ·clear hi
   have ix : ∀ w, (Instr.index 140 (.agg #[.int .u8 123, .int .i64 1, .int .u8 125, .int .i64 1, .int .u8 91, .int .i64 1, .int .u8 93, .int .i64 1, .int .u8 58, .int .i64 1, .int .u8 44, .int .i64 1, .int .u8 32, .int .i64 2, .int .u8 9, .int .i64 2, .int .u8 10, .int .i64 2, .int .u8 13, .int .i64 2]) (.int .i64 1)).run Tryd.prog w = .ok (.agg #[.int .u8 125, .int .i64 1]) w := fun _ => by kernel_rfl
   by_cases hx : x = 125
   ·have h1 : ((125 : Int) == (x : Int)) = true := by rw [hx];rfl
    have HX := zA hx
    clear hx
    go_wp2_with (first
     | ((with_reducible refine gate_dst (N := 5) rfl ?_);refine ev_alloc HB rfl (#[.int .u8 0, .int .i64 0]) 139 ?hr ?_;(case hr => first|(go_simp;done)|(go_simp;rfl));intro g5 w3 G_g5 GE_g5 B_g5 HBn K_g5;clear HB;have HB := HBn;clear HBn)
     | ((with_reducible refine gate_ (Op.store 139 (.tmp 5) (.tmp 20)) rfl ?_);refine ev_store HB B_g5 GE_g5 rfl 139 _ _ rfl rfl rfl (by kernel_rfl) rfl (by simp [Value.oneCell']) ?_;intro w4 B5 HBn K_w4;have c50 := B5.cell (i := 0) rfl;have c51 := B5.cell (i := 1) rfl;clear HB;have HB := HBn;clear HBn))
    go_ret
    exact ⟨by rw [HX.out];rfl, HB.out⟩
   ·have h1 : ((125 : Int) == (x : Int)) = false := beq_eq_false_iff_ne.mpr (by omega)
    have HX := zA hx
    clear hx
    go_wp2_with (first
     | ((with_reducible refine gate_dst (N := 5) rfl ?_);refine ev_alloc HB rfl (#[.int .u8 0, .int .i64 0]) 139 ?hr ?_;(case hr => first|(go_simp;done)|(go_simp;rfl));intro g5 w3 G_g5 GE_g5 B_g5 HBn K_g5;clear HB;have HB := HBn;clear HBn)
     | ((with_reducible refine gate_ (Op.store 139 (.tmp 5) (.tmp 20)) rfl ?_);refine ev_store HB B_g5 GE_g5 rfl 139 _ _ rfl rfl rfl (by kernel_rfl) rfl (by simp [Value.oneCell']) ?_;intro w4 B5 HBn K_w4;have c50 := B5.cell (i := 0) rfl;have c51 := B5.cell (i := 1) rfl;clear HB;have HB := HBn;clear HBn))
    go_roundw
    case rel => exact ⟨2, rfl, ⟨by decide⟩, ⟨kinds_next HJ.out (show kindsX.getD 1 0 ≠ x from fun e => HX.out e.symm)⟩, HB⟩
    case measure => decide
  ·clear hi
   have ix : ∀ w, (Instr.index 140 (.agg #[.int .u8 123, .int .i64 1, .int .u8 125, .int .i64 1, .int .u8 91, .int .i64 1, .int .u8 93, .int .i64 1, .int .u8 58, .int .i64 1, .int .u8 44, .int .i64 1, .int .u8 32, .int .i64 2, .int .u8 9, .int .i64 2, .int .u8 10, .int .i64 2, .int .u8 13, .int .i64 2]) (.int .i64 2)).run Tryd.prog w = .ok (.agg #[.int .u8 91, .int .i64 1]) w := fun _ => by kernel_rfl
   by_cases hx : x = 91
   ·have h1 : ((91 : Int) == (x : Int)) = true := by rw [hx];rfl
    have HX := zA hx
    clear hx
    go_wp2_with (first
     | ((with_reducible refine gate_dst (N := 5) rfl ?_);refine ev_alloc HB rfl (#[.int .u8 0, .int .i64 0]) 139 ?hr ?_;(case hr => first|(go_simp;done)|(go_simp;rfl));intro g5 w3 G_g5 GE_g5 B_g5 HBn K_g5;clear HB;have HB := HBn;clear HBn)
     | ((with_reducible refine gate_ (Op.store 139 (.tmp 5) (.tmp 20)) rfl ?_);refine ev_store HB B_g5 GE_g5 rfl 139 _ _ rfl rfl rfl (by kernel_rfl) rfl (by simp [Value.oneCell']) ?_;intro w4 B5 HBn K_w4;have c50 := B5.cell (i := 0) rfl;have c51 := B5.cell (i := 1) rfl;clear HB;have HB := HBn;clear HBn))
    go_ret
    exact ⟨by rw [HX.out];rfl, HB.out⟩
   ·have h1 : ((91 : Int) == (x : Int)) = false := beq_eq_false_iff_ne.mpr (by omega)
    have HX := zA hx
    clear hx
    go_wp2_with (first
     | ((with_reducible refine gate_dst (N := 5) rfl ?_);refine ev_alloc HB rfl (#[.int .u8 0, .int .i64 0]) 139 ?hr ?_;(case hr => first|(go_simp;done)|(go_simp;rfl));intro g5 w3 G_g5 GE_g5 B_g5 HBn K_g5;clear HB;have HB := HBn;clear HBn)
     | ((with_reducible refine gate_ (Op.store 139 (.tmp 5) (.tmp 20)) rfl ?_);refine ev_store HB B_g5 GE_g5 rfl 139 _ _ rfl rfl rfl (by kernel_rfl) rfl (by simp [Value.oneCell']) ?_;intro w4 B5 HBn K_w4;have c50 := B5.cell (i := 0) rfl;have c51 := B5.cell (i := 1) rfl;clear HB;have HB := HBn;clear HBn))
    go_roundw
    case rel => exact ⟨3, rfl, ⟨by decide⟩, ⟨kinds_next HJ.out (show kindsX.getD 2 0 ≠ x from fun e => HX.out e.symm)⟩, HB⟩
    case measure => decide
  ·clear hi
   have ix : ∀ w, (Instr.index 140 (.agg #[.int .u8 123, .int .i64 1, .int .u8 125, .int .i64 1, .int .u8 91, .int .i64 1, .int .u8 93, .int .i64 1, .int .u8 58, .int .i64 1, .int .u8 44, .int .i64 1, .int .u8 32, .int .i64 2, .int .u8 9, .int .i64 2, .int .u8 10, .int .i64 2, .int .u8 13, .int .i64 2]) (.int .i64 3)).run Tryd.prog w = .ok (.agg #[.int .u8 93, .int .i64 1]) w := fun _ => by kernel_rfl
   by_cases hx : x = 93
   ·have h1 : ((93 : Int) == (x : Int)) = true := by rw [hx];rfl
    have HX := zA hx
    clear hx
    go_wp2_with (first
     | ((with_reducible refine gate_dst (N := 5) rfl ?_);refine ev_alloc HB rfl (#[.int .u8 0, .int .i64 0]) 139 ?hr ?_;(case hr => first|(go_simp;done)|(go_simp;rfl));intro g5 w3 G_g5 GE_g5 B_g5 HBn K_g5;clear HB;have HB := HBn;clear HBn)
     | ((with_reducible refine gate_ (Op.store 139 (.tmp 5) (.tmp 20)) rfl ?_);refine ev_store HB B_g5 GE_g5 rfl 139 _ _ rfl rfl rfl (by kernel_rfl) rfl (by simp [Value.oneCell']) ?_;intro w4 B5 HBn K_w4;have c50 := B5.cell (i := 0) rfl;have c51 := B5.cell (i := 1) rfl;clear HB;have HB := HBn;clear HBn))
    go_ret
    exact ⟨by rw [HX.out];rfl, HB.out⟩
   ·have h1 : ((93 : Int) == (x : Int)) = false := beq_eq_false_iff_ne.mpr (by omega)
    have HX := zA hx
    clear hx
    go_wp2_with (first
     | ((with_reducible refine gate_dst (N := 5) rfl ?_);refine ev_alloc HB rfl (#[.int .u8 0, .int .i64 0]) 139 ?hr ?_;(case hr => first|(go_simp;done)|(go_simp;rfl));intro g5 w3 G_g5 GE_g5 B_g5 HBn K_g5;clear HB;have HB := HBn;clear HBn)
     | ((with_reducible refine gate_ (Op.store 139 (.tmp 5) (.tmp 20)) rfl ?_);refine ev_store HB B_g5 GE_g5 rfl 139 _ _ rfl rfl rfl (by kernel_rfl) rfl (by simp [Value.oneCell']) ?_;intro w4 B5 HBn K_w4;have c50 := B5.cell (i := 0) rfl;have c51 := B5.cell (i := 1) rfl;clear HB;have HB := HBn;clear HBn))
    go_roundw
    case rel => exact ⟨4, rfl, ⟨by decide⟩, ⟨kinds_next HJ.out (show kindsX.getD 3 0 ≠ x from fun e => HX.out e.symm)⟩, HB⟩
    case measure => decide
  ·clear hi
   have ix : ∀ w, (Instr.index 140 (.agg #[.int .u8 123, .int .i64 1, .int .u8 125, .int .i64 1, .int .u8 91, .int .i64 1, .int .u8 93, .int .i64 1, .int .u8 58, .int .i64 1, .int .u8 44, .int .i64 1, .int .u8 32, .int .i64 2, .int .u8 9, .int .i64 2, .int .u8 10, .int .i64 2, .int .u8 13, .int .i64 2]) (.int .i64 4)).run Tryd.prog w = .ok (.agg #[.int .u8 58, .int .i64 1]) w := fun _ => by kernel_rfl
   by_cases hx : x = 58
   ·have h1 : ((58 : Int) == (x : Int)) = true := by rw [hx];rfl
    have HX := zA hx
    clear hx
    go_wp2_with (first
     | ((with_reducible refine gate_dst (N := 5) rfl ?_);refine ev_alloc HB rfl (#[.int .u8 0, .int .i64 0]) 139 ?hr ?_;(case hr => first|(go_simp;done)|(go_simp;rfl));intro g5 w3 G_g5 GE_g5 B_g5 HBn K_g5;clear HB;have HB := HBn;clear HBn)
     | ((with_reducible refine gate_ (Op.store 139 (.tmp 5) (.tmp 20)) rfl ?_);refine ev_store HB B_g5 GE_g5 rfl 139 _ _ rfl rfl rfl (by kernel_rfl) rfl (by simp [Value.oneCell']) ?_;intro w4 B5 HBn K_w4;have c50 := B5.cell (i := 0) rfl;have c51 := B5.cell (i := 1) rfl;clear HB;have HB := HBn;clear HBn))
    go_ret
    exact ⟨by rw [HX.out];rfl, HB.out⟩
   ·have h1 : ((58 : Int) == (x : Int)) = false := beq_eq_false_iff_ne.mpr (by omega)
    have HX := zA hx
    clear hx
    go_wp2_with (first
     | ((with_reducible refine gate_dst (N := 5) rfl ?_);refine ev_alloc HB rfl (#[.int .u8 0, .int .i64 0]) 139 ?hr ?_;(case hr => first|(go_simp;done)|(go_simp;rfl));intro g5 w3 G_g5 GE_g5 B_g5 HBn K_g5;clear HB;have HB := HBn;clear HBn)
     | ((with_reducible refine gate_ (Op.store 139 (.tmp 5) (.tmp 20)) rfl ?_);refine ev_store HB B_g5 GE_g5 rfl 139 _ _ rfl rfl rfl (by kernel_rfl) rfl (by simp [Value.oneCell']) ?_;intro w4 B5 HBn K_w4;have c50 := B5.cell (i := 0) rfl;have c51 := B5.cell (i := 1) rfl;clear HB;have HB := HBn;clear HBn))
    go_roundw
    case rel => exact ⟨5, rfl, ⟨by decide⟩, ⟨kinds_next HJ.out (show kindsX.getD 4 0 ≠ x from fun e => HX.out e.symm)⟩, HB⟩
    case measure => decide
  ·clear hi
   have ix : ∀ w, (Instr.index 140 (.agg #[.int .u8 123, .int .i64 1, .int .u8 125, .int .i64 1, .int .u8 91, .int .i64 1, .int .u8 93, .int .i64 1, .int .u8 58, .int .i64 1, .int .u8 44, .int .i64 1, .int .u8 32, .int .i64 2, .int .u8 9, .int .i64 2, .int .u8 10, .int .i64 2, .int .u8 13, .int .i64 2]) (.int .i64 5)).run Tryd.prog w = .ok (.agg #[.int .u8 44, .int .i64 1]) w := fun _ => by kernel_rfl
   by_cases hx : x = 44
   ·have h1 : ((44 : Int) == (x : Int)) = true := by rw [hx];rfl
    have HX := zA hx
    clear hx
    go_wp2_with (first
     | ((with_reducible refine gate_dst (N := 5) rfl ?_);refine ev_alloc HB rfl (#[.int .u8 0, .int .i64 0]) 139 ?hr ?_;(case hr => first|(go_simp;done)|(go_simp;rfl));intro g5 w3 G_g5 GE_g5 B_g5 HBn K_g5;clear HB;have HB := HBn;clear HBn)
     | ((with_reducible refine gate_ (Op.store 139 (.tmp 5) (.tmp 20)) rfl ?_);refine ev_store HB B_g5 GE_g5 rfl 139 _ _ rfl rfl rfl (by kernel_rfl) rfl (by simp [Value.oneCell']) ?_;intro w4 B5 HBn K_w4;have c50 := B5.cell (i := 0) rfl;have c51 := B5.cell (i := 1) rfl;clear HB;have HB := HBn;clear HBn))
    go_ret
    exact ⟨by rw [HX.out];rfl, HB.out⟩
   ·have h1 : ((44 : Int) == (x : Int)) = false := beq_eq_false_iff_ne.mpr (by omega)
    have HX := zA hx
    clear hx
    go_wp2_with (first
     | ((with_reducible refine gate_dst (N := 5) rfl ?_);refine ev_alloc HB rfl (#[.int .u8 0, .int .i64 0]) 139 ?hr ?_;(case hr => first|(go_simp;done)|(go_simp;rfl));intro g5 w3 G_g5 GE_g5 B_g5 HBn K_g5;clear HB;have HB := HBn;clear HBn)
     | ((with_reducible refine gate_ (Op.store 139 (.tmp 5) (.tmp 20)) rfl ?_);refine ev_store HB B_g5 GE_g5 rfl 139 _ _ rfl rfl rfl (by kernel_rfl) rfl (by simp [Value.oneCell']) ?_;intro w4 B5 HBn K_w4;have c50 := B5.cell (i := 0) rfl;have c51 := B5.cell (i := 1) rfl;clear HB;have HB := HBn;clear HBn))
    go_roundw
    case rel => exact ⟨6, rfl, ⟨by decide⟩, ⟨kinds_next HJ.out (show kindsX.getD 5 0 ≠ x from fun e => HX.out e.symm)⟩, HB⟩
    case measure => decide
  ·clear hi
   have ix : ∀ w, (Instr.index 140 (.agg #[.int .u8 123, .int .i64 1, .int .u8 125, .int .i64 1, .int .u8 91, .int .i64 1, .int .u8 93, .int .i64 1, .int .u8 58, .int .i64 1, .int .u8 44, .int .i64 1, .int .u8 32, .int .i64 2, .int .u8 9, .int .i64 2, .int .u8 10, .int .i64 2, .int .u8 13, .int .i64 2]) (.int .i64 6)).run Tryd.prog w = .ok (.agg #[.int .u8 32, .int .i64 2]) w := fun _ => by kernel_rfl
   by_cases hx : x = 32
   ·have h1 : ((32 : Int) == (x : Int)) = true := by rw [hx];rfl
    have HX := zA hx
    clear hx
    go_wp2_with (first
     | ((with_reducible refine gate_dst (N := 5) rfl ?_);refine ev_alloc HB rfl (#[.int .u8 0, .int .i64 0]) 139 ?hr ?_;(case hr => first|(go_simp;done)|(go_simp;rfl));intro g5 w3 G_g5 GE_g5 B_g5 HBn K_g5;clear HB;have HB := HBn;clear HBn)
     | ((with_reducible refine gate_ (Op.store 139 (.tmp 5) (.tmp 20)) rfl ?_);refine ev_store HB B_g5 GE_g5 rfl 139 _ _ rfl rfl rfl (by kernel_rfl) rfl (by simp [Value.oneCell']) ?_;intro w4 B5 HBn K_w4;have c50 := B5.cell (i := 0) rfl;have c51 := B5.cell (i := 1) rfl;clear HB;have HB := HBn;clear HBn))
    go_ret
    exact ⟨by rw [HX.out];rfl, HB.out⟩
   ·have h1 : ((32 : Int) == (x : Int)) = false := beq_eq_false_iff_ne.mpr (by omega)
    have HX := zA hx
    clear hx
    go_wp2_with (first
     | ((with_reducible refine gate_dst (N := 5) rfl ?_);refine ev_alloc HB rfl (#[.int .u8 0, .int .i64 0]) 139 ?hr ?_;(case hr => first|(go_simp;done)|(go_simp;rfl));intro g5 w3 G_g5 GE_g5 B_g5 HBn K_g5;clear HB;have HB := HBn;clear HBn)
     | ((with_reducible refine gate_ (Op.store 139 (.tmp 5) (.tmp 20)) rfl ?_);refine ev_store HB B_g5 GE_g5 rfl 139 _ _ rfl rfl rfl (by kernel_rfl) rfl (by simp [Value.oneCell']) ?_;intro w4 B5 HBn K_w4;have c50 := B5.cell (i := 0) rfl;have c51 := B5.cell (i := 1) rfl;clear HB;have HB := HBn;clear HBn))
    go_roundw
    case rel => exact ⟨7, rfl, ⟨by decide⟩, ⟨kinds_next HJ.out (show kindsX.getD 6 0 ≠ x from fun e => HX.out e.symm)⟩, HB⟩
    case measure => decide
  ·clear hi
   have ix : ∀ w, (Instr.index 140 (.agg #[.int .u8 123, .int .i64 1, .int .u8 125, .int .i64 1, .int .u8 91, .int .i64 1, .int .u8 93, .int .i64 1, .int .u8 58, .int .i64 1, .int .u8 44, .int .i64 1, .int .u8 32, .int .i64 2, .int .u8 9, .int .i64 2, .int .u8 10, .int .i64 2, .int .u8 13, .int .i64 2]) (.int .i64 7)).run Tryd.prog w = .ok (.agg #[.int .u8 9, .int .i64 2]) w := fun _ => by kernel_rfl
   by_cases hx : x = 9
   ·have h1 : ((9 : Int) == (x : Int)) = true := by rw [hx];rfl
    have HX := zA hx
    clear hx
    go_wp2_with (first
     | ((with_reducible refine gate_dst (N := 5) rfl ?_);refine ev_alloc HB rfl (#[.int .u8 0, .int .i64 0]) 139 ?hr ?_;(case hr => first|(go_simp;done)|(go_simp;rfl));intro g5 w3 G_g5 GE_g5 B_g5 HBn K_g5;clear HB;have HB := HBn;clear HBn)
     | ((with_reducible refine gate_ (Op.store 139 (.tmp 5) (.tmp 20)) rfl ?_);refine ev_store HB B_g5 GE_g5 rfl 139 _ _ rfl rfl rfl (by kernel_rfl) rfl (by simp [Value.oneCell']) ?_;intro w4 B5 HBn K_w4;have c50 := B5.cell (i := 0) rfl;have c51 := B5.cell (i := 1) rfl;clear HB;have HB := HBn;clear HBn))
    go_ret
    exact ⟨by rw [HX.out];rfl, HB.out⟩
   ·have h1 : ((9 : Int) == (x : Int)) = false := beq_eq_false_iff_ne.mpr (by omega)
    have HX := zA hx
    clear hx
    go_wp2_with (first
     | ((with_reducible refine gate_dst (N := 5) rfl ?_);refine ev_alloc HB rfl (#[.int .u8 0, .int .i64 0]) 139 ?hr ?_;(case hr => first|(go_simp;done)|(go_simp;rfl));intro g5 w3 G_g5 GE_g5 B_g5 HBn K_g5;clear HB;have HB := HBn;clear HBn)
     | ((with_reducible refine gate_ (Op.store 139 (.tmp 5) (.tmp 20)) rfl ?_);refine ev_store HB B_g5 GE_g5 rfl 139 _ _ rfl rfl rfl (by kernel_rfl) rfl (by simp [Value.oneCell']) ?_;intro w4 B5 HBn K_w4;have c50 := B5.cell (i := 0) rfl;have c51 := B5.cell (i := 1) rfl;clear HB;have HB := HBn;clear HBn))
    go_roundw
    case rel => exact ⟨8, rfl, ⟨by decide⟩, ⟨kinds_next HJ.out (show kindsX.getD 7 0 ≠ x from fun e => HX.out e.symm)⟩, HB⟩
    case measure => decide
  ·clear hi
   have ix : ∀ w, (Instr.index 140 (.agg #[.int .u8 123, .int .i64 1, .int .u8 125, .int .i64 1, .int .u8 91, .int .i64 1, .int .u8 93, .int .i64 1, .int .u8 58, .int .i64 1, .int .u8 44, .int .i64 1, .int .u8 32, .int .i64 2, .int .u8 9, .int .i64 2, .int .u8 10, .int .i64 2, .int .u8 13, .int .i64 2]) (.int .i64 8)).run Tryd.prog w = .ok (.agg #[.int .u8 10, .int .i64 2]) w := fun _ => by kernel_rfl
   by_cases hx : x = 10
   ·have h1 : ((10 : Int) == (x : Int)) = true := by rw [hx];rfl
    have HX := zA hx
    clear hx
    go_wp2_with (first
     | ((with_reducible refine gate_dst (N := 5) rfl ?_);refine ev_alloc HB rfl (#[.int .u8 0, .int .i64 0]) 139 ?hr ?_;(case hr => first|(go_simp;done)|(go_simp;rfl));intro g5 w3 G_g5 GE_g5 B_g5 HBn K_g5;clear HB;have HB := HBn;clear HBn)
     | ((with_reducible refine gate_ (Op.store 139 (.tmp 5) (.tmp 20)) rfl ?_);refine ev_store HB B_g5 GE_g5 rfl 139 _ _ rfl rfl rfl (by kernel_rfl) rfl (by simp [Value.oneCell']) ?_;intro w4 B5 HBn K_w4;have c50 := B5.cell (i := 0) rfl;have c51 := B5.cell (i := 1) rfl;clear HB;have HB := HBn;clear HBn))
    go_ret
    exact ⟨by rw [HX.out];rfl, HB.out⟩
   ·have h1 : ((10 : Int) == (x : Int)) = false := beq_eq_false_iff_ne.mpr (by omega)
    have HX := zA hx
    clear hx
    go_wp2_with (first
     | ((with_reducible refine gate_dst (N := 5) rfl ?_);refine ev_alloc HB rfl (#[.int .u8 0, .int .i64 0]) 139 ?hr ?_;(case hr => first|(go_simp;done)|(go_simp;rfl));intro g5 w3 G_g5 GE_g5 B_g5 HBn K_g5;clear HB;have HB := HBn;clear HBn)
     | ((with_reducible refine gate_ (Op.store 139 (.tmp 5) (.tmp 20)) rfl ?_);refine ev_store HB B_g5 GE_g5 rfl 139 _ _ rfl rfl rfl (by kernel_rfl) rfl (by simp [Value.oneCell']) ?_;intro w4 B5 HBn K_w4;have c50 := B5.cell (i := 0) rfl;have c51 := B5.cell (i := 1) rfl;clear HB;have HB := HBn;clear HBn))
    go_roundw
    case rel => exact ⟨9, rfl, ⟨by decide⟩, ⟨kinds_next HJ.out (show kindsX.getD 8 0 ≠ x from fun e => HX.out e.symm)⟩, HB⟩
    case measure => decide
  ·clear hi
   have ix : ∀ w, (Instr.index 140 (.agg #[.int .u8 123, .int .i64 1, .int .u8 125, .int .i64 1, .int .u8 91, .int .i64 1, .int .u8 93, .int .i64 1, .int .u8 58, .int .i64 1, .int .u8 44, .int .i64 1, .int .u8 32, .int .i64 2, .int .u8 9, .int .i64 2, .int .u8 10, .int .i64 2, .int .u8 13, .int .i64 2]) (.int .i64 9)).run Tryd.prog w = .ok (.agg #[.int .u8 13, .int .i64 2]) w := fun _ => by kernel_rfl
   by_cases hx : x = 13
   ·have h1 : ((13 : Int) == (x : Int)) = true := by rw [hx];rfl
    have HX := zA hx
    clear hx
    go_wp2_with (first
     | ((with_reducible refine gate_dst (N := 5) rfl ?_);refine ev_alloc HB rfl (#[.int .u8 0, .int .i64 0]) 139 ?hr ?_;(case hr => first|(go_simp;done)|(go_simp;rfl));intro g5 w3 G_g5 GE_g5 B_g5 HBn K_g5;clear HB;have HB := HBn;clear HBn)
     | ((with_reducible refine gate_ (Op.store 139 (.tmp 5) (.tmp 20)) rfl ?_);refine ev_store HB B_g5 GE_g5 rfl 139 _ _ rfl rfl rfl (by kernel_rfl) rfl (by simp [Value.oneCell']) ?_;intro w4 B5 HBn K_w4;have c50 := B5.cell (i := 0) rfl;have c51 := B5.cell (i := 1) rfl;clear HB;have HB := HBn;clear HBn))
    go_ret
    exact ⟨by rw [HX.out];rfl, HB.out⟩
   ·have h1 : ((13 : Int) == (x : Int)) = false := beq_eq_false_iff_ne.mpr (by omega)
    have HX := zA hx
    clear hx
    go_wp2_with (first
     | ((with_reducible refine gate_dst (N := 5) rfl ?_);refine ev_alloc HB rfl (#[.int .u8 0, .int .i64 0]) 139 ?hr ?_;(case hr => first|(go_simp;done)|(go_simp;rfl));intro g5 w3 G_g5 GE_g5 B_g5 HBn K_g5;clear HB;have HB := HBn;clear HBn)
     | ((with_reducible refine gate_ (Op.store 139 (.tmp 5) (.tmp 20)) rfl ?_);refine ev_store HB B_g5 GE_g5 rfl 139 _ _ rfl rfl rfl (by kernel_rfl) rfl (by simp [Value.oneCell']) ?_;intro w4 B5 HBn K_w4;have c50 := B5.cell (i := 0) rfl;have c51 := B5.cell (i := 1) rfl;clear HB;have HB := HBn;clear HBn))
    go_roundw
    case rel => exact ⟨10, rfl, ⟨by decide⟩, ⟨kinds_next HJ.out (show kindsX.getD 9 0 ≠ x from fun e => HX.out e.symm)⟩, HB⟩
    case measure => decide
  ·go_wp2
   go_ret
   exact ⟨by rw [kindN_none HJ.out];rfl, HB.out⟩
end


open Go.Proofs.YtgddljealeklkaaDoorQ Go.Proofs.YtgddljealeklkaaDoorM in
set_option maxHeartbeats 1000000 in
set_option maxRecDepth 100000 in
theorem block_Join.calls (p q : Nat → Bool) (w : World) :
  Calls Tryd.prog 108 #[.agg (clsA p), .agg (clsA q)] w fun e w' => e = .returned (.agg (clsA (joinC p q))) ∧ Below w.heap.size w w' := by
 have HB := BelowH.refl w
 go_enter Tryd.func108, Tryd.ntmps108
 go_upto_region 1 with (first
  | ((with_reducible refine gate_dst (N := 2) rfl ?_);refine ev_alloc HB rfl (clsA (p)) 111 ?hr ?_;(case hr => first|(go_simp;done)|(go_simp;rfl));intro g2 w1 G_g2 GE_g2 B_g2 HBn K_g2;clear HB;have HB := HBn;clear HBn)
  | ((with_reducible refine gate_dst (N := 3) rfl ?_);refine ev_alloc HB rfl (clsA (q)) 111 ?hr ?_;(case hr => first|(go_simp;done)|(go_simp;rfl));intro g3 w2 G_g3 GE_g3 B_g3 HBn K_g3;clear HB;have HB := HBn;clear HBn)
  | ((with_reducible refine gate_dst (N := 4) rfl ?_);refine ev_alloc HB rfl (clsA fun _ => false) 111 ?hr ?_;(case hr => rw [← clsA_zero];go_simp;rfl);intro g4 w3 G_g4 GE_g4 B_g4 HBn K_g4;clear HB;have HB := HBn;clear HBn))
 have D2 := ((B_g2.below K_g3.out).below K_g4.out)
 have D3 := (B_g3.below K_g4.out)
 have D4 := B_g4
 have N3 := zA (show g2 < g3 by have := B_g2.lt;have := G_g3.out;have := B_g3.lt;have := G_g4.out;omega)
 have N4 := zA (show g2 < g4 by have := B_g2.lt;have := G_g3.out;have := B_g3.lt;have := G_g4.out;omega)
 rw [mix_zero (joinC p q) p] at D2
 go_wp2
 go_loopw [6] (fun v6 wr => ∃ k : Nat, k ≤ 4 ∧ v6 = .int .i64 k ∧ Blk wr g2 (clsA (mixA (joinC p q) p k)) 111 ∧ Blk wr g3 (clsA q) 111 ∧ Blk wr g4 (clsA fun _ => false) 111 ∧ BelowH w wr) (fun v6 _ => 4 - (intOf v6).toNat)
 case atStart => exact ⟨0, by omega, rfl, D2, D3, D4, HB⟩
 case round =>
  clear D2 D3 D4 B_g2 B_g3 B_g4 HB
  obtain ⟨k, hk, rfl, B2, B3, B4, HB⟩ := hrel
  by_cases hlt : k < 4
  ·have h1 : (k : Int) < 4 := by omega
   have KX := zA hlt
   have c1 := B2.cell (clsA_get (mixA (joinC p q) p k) hlt)
   rw [mix_at] at c1
   have c2 := B3.cell (clsA_get q hlt)
   clear hlt hk
   go_upto_region 4 with (fail)
   go_still_tail 11, (by kernel_rfl)
   change wpList _ _ _ _ _ wr.drew
   have EB2 := B2.drew
   have EB3 := B3.drew
   have EB4 := B4.drew
   have HE := HB.drew
   clear B2 B3 B4 HB c1 c2
   go_wp2_with (first
    | ((with_reducible refine gate_ (Op.store 75 (.tmp 19) (.tmp 17)) rfl ?_);refine ev_store1 (i := k) HE EB2 GE_g2 rfl 75 _ _ rfl rfl (.int .u64 (bits .or .u64 (iv (clsW p k)) (iv (clsW q k)))) rfl (by rw [clsA_size];exact KX.out) (by kernel_rfl) rfl ?_;intro w8 B8 HB8 K8))
   rw [mix_step (joinC p q) p KX.out (join_word p q k)] at B8
   go_roundw
   case rel => exact ⟨k + 1, by have := KX.out;omega, by go_num, B8, EB3.other K8 (Nat.ne_of_gt N3.out), EB4.other K8 (Nat.ne_of_gt N4.out), HB8⟩
   case measure =>
    simp [intOf]
    have := KX.out
    omega
  ·obtain rfl : k = 4 := by omega
   rw [mix_end] at B2
   go_wp2_with (first
    | ((with_reducible refine gate_dst (N := 21) rfl ?_);(try (refine gate_guard (by rfl) ?_;dsimp only));refine ev_loadS B2 rfl 111 _ rfl rfl Tryd.underlying111 rfl (sizeC' _) ?_)
    | ((with_reducible refine gate_ (Op.store 111 (.tmp 4) (.tmp 21)) rfl ?_);refine ev_store HB B4 GE_g4 rfl 111 _ _ rfl rfl rfl (sizeC' _) (by rw [clsA_size, clsA_size]) (clsA_one _) ?_;intro w9 B9 HBn K_w9;clear HB;have HB := HBn;clear HBn))
   refine bodyPost_ret (results_cell_row rfl _ _ g4 111 _ (0, 0) _ rfl B9.out Tryd.underlying111 rfl (sizeC' _)) rfl ?_
   exact ⟨rfl, HB.out⟩


open Go.Proofs.YtgddljealeklkaaDoorQ Go.Proofs.YtgddljealeklkaaDoorM in
set_option maxHeartbeats 400000 in
set_option maxRecDepth 100000 in
theorem block_Of.calls (s : ByteArray) (w : World) (hs : s.size ≤ 281474976702464) :
  Calls Tryd.prog 109 #[.string s] w fun e w' => e = .returned (.agg (clsA (inT s s.size))) ∧ Below w.heap.size w w' := by
 have HB := BelowH.refl w
 have HS := zA hs
 clear hs
 go_enter Tryd.func109, Tryd.ntmps109
 go_wp2_with (first
  | ((with_reducible refine gate_dst (N := 2) rfl ?_);refine ev_alloc HB rfl (clsA fun _ => false) 111 ?hr ?_;(case hr => rw [← clsA_zero];go_simp;rfl);intro g0 w1 G_g0 GE_g0 B_g0 HBn K_g0;clear HB;have HB := HBn;clear HBn)
  | ((with_reducible refine gate_dst (N := 3) rfl ?_);refine ev_alloc HB rfl (clsA fun _ => false) 111 ?hr ?_;(case hr => rw [← clsA_zero];go_simp;rfl);intro g1 w2 G_g1 GE_g1 B_g1 HBn K_g1;clear HB;have HB := HBn;clear HBn))
 have N01 := zA (show g0 < g1 by have := B_g0.lt;have := G_g1.out;omega)
 go_loopw [7] (fun v7 wr => ∃ i : Nat, i ≤ s.size ∧ v7 = .int .i64 i ∧ Blk wr g0 (clsA fun _ => false) 111 ∧ Blk wr g1 (clsA (inT s i)) 111 ∧ BelowH w wr) (fun v7 _ => s.size - (intOf v7).toNat)
 case atStart => exact ⟨0, by omega, rfl, B_g0.below K_g1.out, B_g1, HB⟩
 case round =>
  clear B_g0 B_g1 HB
  obtain ⟨i, hi, rfl, B0, B1, HB⟩ := hrel
  by_cases hlt : i < s.size
  ·have KI := zA hlt
   have hlt' : decide ((i : Int) < (s.size : Int)) = true := zz1 (by omega)
   go_upto_region 5 with (fail)
   obtain ⟨k, hk⟩ : ∃ k : Nat, k = (s[i]'hlt).toNat / 64 := ⟨_, rfl⟩
   obtain ⟨m, hm⟩ : ∃ m : Nat, m = (s[i]'hlt).toNat % 64 := ⟨_, rfl⟩
   have hx : (s[i]'hlt).toNat < 256 := UInt8.toNat_lt _
   have hk1 : (((s[i]'hlt).toNat : Nat) : Int) / 64 = (k : Int) := by omega
   have hk4 : (k : Int) < 4 := by omega
   have hm1 : bits .and .u8 (((s[i]'hlt).toNat : Nat) : Int) 63 = (m : Int) := by rw [bits_and_u8_63 _ hx, hm]
   have hm4 : (m : Int) < 64 := by omega
   have hc := B1.cell (clsA_get _ (show k < 4 by omega))
   have HK := zA hk
   have HM := zA hm
   clear hk hm hx
   go_still_tail 14, (by kernel_rfl)
   change wpList _ _ _ _ _ wr.drew
   have B1' := B1.drew
   have B0' := B0.drew
   have HB' := HB.drew
   have HV := zA (cls_or (p := inT s i) (q := inT s (i + 1)) (k := k) (m := m) (by omega) (inT_step hlt HK.out HM.out))
   clear HB B0 B1 hc hk1 hm1
   go_wp2_with (first
    | ((with_reducible refine gate_ (Op.store 75 (.tmp 24) (.tmp 22)) rfl ?_);refine ev_store1 (i := k) HB' B1' GE_g1 rfl 75 _ _ rfl rfl (.int .u64 (bits .or .u64 (iv (clsW (inT s i) k)) (IntKind.u64.wrap (2 ^ m)))) rfl (by rw [clsA_size];omega) (by kernel_rfl) rfl ?_;intro w5 B5 HB5 K5))
   go_roundw
   case rel =>
    refine ⟨i + 1, by omega, by rw [w64_up KI.out HS.out], B0'.other K5 (Nat.ne_of_lt N01.out), ?_, HB5⟩
    rw [HV.out, clsA_set (q := inT s (i + 1)) (by omega) rfl (fun x _ hx => (inT_else hlt HK.out hx).symm)] at B5
    exact B5
   case measure =>
    rw [w64_up KI.out HS.out]
    simp [intOf]
    have := KI.out
    omega
  ·obtain rfl : i = s.size := by omega
   go_wp2_with (first
    | ((with_reducible refine gate_dst (N := 26) rfl ?_);(try (refine gate_guard (by rfl) ?_;dsimp only));refine ev_loadS B1 rfl 111 _ rfl rfl Tryd.underlying111 rfl (sizeC' _) ?_)
    | ((with_reducible refine gate_ (Op.store 111 (.tmp 2) (.tmp 26)) rfl ?_);refine ev_store HB B0 GE_g0 rfl 111 _ _ rfl rfl rfl (sizeC' _) (by rw [clsA_size, clsA_size]) (clsA_one _) ?_;intro w6 B6 HBn K_w6;clear HB;have HB := HBn;clear HBn))
   refine bodyPost_ret (results_cell_row rfl _ _ g0 111 _ (0, 0) _ rfl B6.out Tryd.underlying111 rfl (sizeC' _)) rfl ?_
   exact ⟨rfl, HB.out⟩


section
open Go.Proofs.YtgddljealeklkaaDoorQ Go.Proofs.YtgddljealeklkaaDoorM
set_option maxHeartbeats 2000000 in
set_option maxRecDepth 100000 in
theorem marks_classes.tells (w : World) :
  Calls Tryd.prog 84 #[] w fun e w' => e = .returned (.tuple #[.agg (clsA sgx), .agg (clsA blx)]) ∧ Below w.heap.size w w' := by
 have HB := BelowH.refl w
 go_enter Tryd.func84, Tryd.ntmps84
 go_wp2_with (first
  | ((with_reducible refine gate_dst (N := 0) rfl ?_);refine ev_alloc HB rfl (clsA fun _ => false) 111 ?hr ?_;(case hr => rw [← clsA_zero];go_simp;rfl);intro g0 w1 G_g0 GE_g0 B_g0 HBn K_g0;clear HB;have HB := HBn;clear HBn)
  | ((with_reducible refine gate_dst (N := 1) rfl ?_);refine ev_alloc HB rfl (clsA fun _ => false) 111 ?hr ?_;(case hr => rw [← clsA_zero];go_simp;rfl);intro g1 w2 G_g1 GE_g1 B_g1 HBn K_g1;clear HB;have HB := HBn;clear HBn))
 have N01 := zA (show g0 < g1 by have := B_g0.lt;have := G_g1.out;omega)
 have B0 := (B_g0.below K_g1.out).eqA (low_zero sgx)
 have B1 := B_g1.eqA (low_zero blx)
 clear B_g0 B_g1 K_g0 K_g1 G_g0 G_g1
 go_loopw [3] (fun v3 wr => ∃ x : Nat, v3 = .int .i64 (x : Int) ∧ Aside0 (x ≤ 256) ∧ Blk wr g0 (clsA (lowC sgx x)) 111 ∧ Blk wr g1 (clsA (lowC blx x)) 111 ∧ BelowH w wr) (fun v3 _ => 256 - (intOf v3).toNat)
 case atStart => exact ⟨0, rfl, ⟨Nat.zero_le _⟩, B0, B1, HB⟩
 case round =>
  clear B0 B1 HB
  obtain ⟨x, rfl, HX, B0, B1, HB⟩ := hrel
  by_cases hlt : x < 256
  ·have HLT := zA hlt
   have h1 : (x : Int) < 256 := by omega
   have h2 : (0 : Int) ≤ (x : Int) := by omega
   have h3 : IntKind.u8.wrap (x : Int) = (x : Int) := u8_wrap hlt
   have hb8 := u8_of hlt
   have KN : Aside0 (∀ w, Calls Tryd.prog 107 #[.int .u8 (x : Int)] w fun e w' => e = .returned (.int .i64 (kindN x)) ∧ Below w.heap.size w w') := ⟨fun w => marks_kindOf.tells x HLT.out w⟩
   obtain ⟨str, hstr⟩ : ∃ str : ByteArray, str = ⟨#[UInt8.ofNat x]⟩ := ⟨_, rfl⟩
   obtain ⟨tx, htx⟩ : ∃ tx : Nat → Bool, tx = fun y => decide (y = x) := ⟨_, rfl⟩
   have OF : Aside0 (∀ w, Calls Tryd.prog 109 #[.string str] w fun e w' => e = .returned (.agg (clsA tx)) ∧ Below w.heap.size w w') := ⟨fun w => by
    rw [hstr, htx]
    have h := block_Of.calls (⟨#[UInt8.ofNat x]⟩ : ByteArray) w (show 1 ≤ 281474976702464 by decide)
    rw [show clsA (inT (⟨#[UInt8.ofNat x]⟩ : ByteArray) (⟨#[UInt8.ofNat x]⟩ : ByteArray).size) = clsA (fun y => decide (y = x)) from clsA_congr fun y _ => one_byte x HLT.out y] at h
    exact h⟩
   have HT := zA htx
   have HSTR := zA hstr
   have HB8 := zA hb8
   clear hlt htx hstr hb8
   obtain ⟨kn, hkn⟩ : ∃ kn, kn = kindN x := ⟨_, rfl⟩
   rw [← hkn] at KN
   have HKN := zA hkn
   clear hkn
   by_cases hs : sgx x = true
   ·have hk1 : (kn == 1) = true := by rw [HKN.out, kindN_sign hs];rfl
    have RX := zA hs
    have OX := zA (blx_of_sgx hs)
    clear hs
    go_upto_region 6 with (first
     | (go_at_call 107;(with_reducible refine (KN.out _).mono ?_);rintro e w4 ⟨rfl, hb4⟩;have B04 := B0.below hb4;have B14 := B1.below hb4;have HB4 := HB.step hb4;clear hb4 B0 B1 HB))
    clear hk1
    have hbd : Aside0 (Below w4.heap.size w4 w4.drew) := ⟨below_drew (Below.refl _ _)⟩
    have B05 := B04.below hbd.out
    have B15 := B14.below hbd.out
    have HB5 := HB4.step hbd.out
    clear B04 B14 HB4 hbd
    refine wp_region_noPanic ?_
    refine wp_region_last_drew (S := fun W' => Blk W' g0 (clsA (lowC sgx x)) 111) (ds := [7]) (by kernel_rfl) B05 (fun hS => ?_)
    refine zM (i := 0) (oi := Oper.mk _ _ _ _ _ _) rfl (by kernel_rfl) (by kernel_rfl) (by kernel_rfl) (by kernel_rfl) (by kernel_rfl) (fun _ _ _ h => h) (rg_load (by rfl) (fun _ hS => hS) 111 _ rfl rfl Tryd.underlying111 rfl (sizeC' _)) hS ?_
    try simp only [Act.put, zB, zC, zD]
    refine' zM (i := 1) (oi := Oper.mk _ _ _ _ _ _) rfl (by kernel_rfl) (by kernel_rfl) (by kernel_rfl) (by kernel_rfl) (by kernel_rfl) (fun _ _ _ h => h) (Or.inl ⟨by rfl, ?hy1⟩) hS ?rest1
    case hy1 => (intro w hSw;(try dsimp only at hSw);first|(go_simp;done)|(go_simp;with_reducible rfl))
    try simp only [Act.put, zB, zC, zD]
    refine' zM (i := 2) (oi := Oper.mk _ _ _ _ _ _) rfl (by kernel_rfl) (by kernel_rfl) (by kernel_rfl) (by kernel_rfl) (by kernel_rfl) (fun _ _ _ h => h) (Or.inl ⟨by rfl, ?hy2⟩) hS ?rest2
    case hy2 => (intro w hSw;(try dsimp only at hSw);first|(go_simp;done)|(go_simp;with_reducible rfl))
    try simp only [Act.put, zB, zC, zD]
    refine wpAnyLast_ready (rs := [3]) (by kernel_rfl) (by simp) ?_
    refine AllReadyL.cons (o := Oper.mk _ _ _ _ _ _) rfl (by decide) (fun K hK => ?_) ?_
    ·refine rg_lit HB5 (by rfl) (.int .u8 (x : Int)) 5 (by first|(go_simp;done)|(go_simp;rfl)) ?_
     intro gN w6 sN HB6 hb
     have B06 := B05.below hb.out
     have B16 := B15.below hb.out
     have sN6 := sN.eqA (show (#[Value.int .u8 (x : Int)] : Array Value) = #[.int .u8 (((UInt8.ofNat x).toNat : Nat) : Int)] by rw [HB8.out])
     refine hK.out _ _ B06 (fun hS => ?_)
     clear hK K sN hb B05 B15 HB5
     try simp only [Act.put, zB, zC, zD]
     refine wpAnyLast_ready (rs := [4]) (by kernel_rfl) (by simp) ?_
     refine AllReadyL.cons (o := Oper.mk _ _ _ _ _ _) rfl (by decide) (fun K hK => ?_) ?_
     ·refine rg_str1 (by rfl) sN6 37 9 5 _ rfl rfl Tryd.underlying37 Tryd.underlying5 Tryd.underlying9 ?_
      rw [← HSTR.out]
      refine hK.out _ _ hS (fun hS => ?_)
      clear hK K sN6
      try simp only [Act.put, zB, zC, zD]
      refine wpAnyLast_ready (rs := [5]) (by kernel_rfl) (by simp) ?_
      refine AllReadyL.cons (o := Oper.mk _ _ _ _ _ _) rfl (by decide) (fun K hK => ?_) ?_
      ·refine rg_call (by rfl) _ _ (.agg (clsA tx)) (by first|(go_simp;done)|(go_simp;rfl)) (OF.out _) ?_
       intro W' hb
       have B07 := B06.below hb.out
       have B17 := B16.below hb.out
       have HB7 := HB6.step hb.out
       clear B06 B16 HB6
       refine hK.out _ _ B07 (fun hS => ?_)
       clear hK K
       try simp only [Act.put, zB, zC, zD]
       refine wpAnyLast_ready (rs := [6]) (by kernel_rfl) (by simp) ?_
       refine AllReadyL.cons (o := Oper.mk _ _ _ _ _ _) rfl (by decide) (fun K hK => ?_) ?_
       ·refine rg_call (by rfl) _ _ (.agg (clsA (joinC (lowC sgx x) tx))) (by first|(go_simp;done)|(go_simp;rfl)) (block_Join.calls (lowC sgx x) tx _) ?_
        intro W' hb
        have B08 := B07.below hb.out
        have B18 := B17.below hb.out
        have HB8' := HB7.step hb.out
        clear B07 B17 HB7
        refine hK.out _ _ B08 (fun hS => ?_)
        clear hK K
        try simp only [Act.put, zB, zC, zD]
        refine wpAnyLast_ready (rs := [7]) (by kernel_rfl) (by simp) ?_
        refine AllReadyL.cons_last (o := Oper.mk _ _ _ _ _ _) rfl (by decide) (fun K hK => ?_) ?_
        ·refine rg_store HB8' (by rfl) B08 GE_g0 111 _ _ rfl rfl rfl (sizeC' _) (by rw [clsA_size, clsA_size]) (clsA_one _) ?_
         intro w9 B9 HB9 K9
         have BO := B18.other K9 (Nat.ne_of_gt N01.out)
         refine hK.out _ _ ?_
         clear hK K
         try simp only [Act.put, zB, zC, zD]
         refine wpAnyLast_done (by kernel_rfl) ?_ _
         refine NoPanic.normal ?_
         go_wp2
         go_roundw
         case rel => exact ⟨x + 1, by go_num, ⟨by have := HLT.out;omega⟩, B9.eqA (by rw [HT.out];exact low_put sgx RX.out), BO.eqA (low_skip blx OX.out), HB9⟩
         case measure => (simp [intOf];have := HLT.out;omega)
        exact AllReadyL.nil
       exact AllReadyL.nil
      exact AllReadyL.nil
     exact AllReadyL.nil
    exact AllReadyL.nil
   ·have hs0 : sgx x = false := by simpa using hs
    have hk1 : (kn == 1) = false := by rw [HKN.out];exact kindN_not_sign hs0
    have OX := zA hs0
    clear hs hs0
    by_cases hb : blx x = true
    ·have hk2 : (kn == 2) = true := by rw [HKN.out, kindN_blank OX.out hb];rfl
     have RX := zA hb
     clear hb
     go_upto_region 8 with (first
     | (go_at_call 107;(with_reducible refine (KN.out _).mono ?_);rintro e w4 ⟨rfl, hb4⟩;have B04 := B0.below hb4;have B14 := B1.below hb4;have HB4 := HB.step hb4;clear hb4 B0 B1 HB))
     clear hk1 hk2
     have hbd : Aside0 (Below w4.heap.size w4 w4.drew) := ⟨below_drew (Below.refl _ _)⟩
     have B05 := B04.below hbd.out
     have B15 := B14.below hbd.out
     have HB5 := HB4.step hbd.out
     clear B04 B14 HB4 hbd
     refine wp_region_noPanic ?_
     refine wp_region_last_drew (S := fun W' => Blk W' g1 (clsA (lowC blx x)) 111) (ds := [7]) (by kernel_rfl) B15 (fun hS => ?_)
     refine zM (i := 0) (oi := Oper.mk _ _ _ _ _ _) rfl (by kernel_rfl) (by kernel_rfl) (by kernel_rfl) (by kernel_rfl) (by kernel_rfl) (fun _ _ _ h => h) (rg_load (by rfl) (fun _ hS => hS) 111 _ rfl rfl Tryd.underlying111 rfl (sizeC' _)) hS ?_
     try simp only [Act.put, zB, zC, zD]
     refine' zM (i := 1) (oi := Oper.mk _ _ _ _ _ _) rfl (by kernel_rfl) (by kernel_rfl) (by kernel_rfl) (by kernel_rfl) (by kernel_rfl) (fun _ _ _ h => h) (Or.inl ⟨by rfl, ?hy3⟩) hS ?rest3
     case hy3 => (intro w hSw;(try dsimp only at hSw);first|(go_simp;done)|(go_simp;with_reducible rfl))
     try simp only [Act.put, zB, zC, zD]
     refine' zM (i := 2) (oi := Oper.mk _ _ _ _ _ _) rfl (by kernel_rfl) (by kernel_rfl) (by kernel_rfl) (by kernel_rfl) (by kernel_rfl) (fun _ _ _ h => h) (Or.inl ⟨by rfl, ?hy4⟩) hS ?rest4
     case hy4 => (intro w hSw;(try dsimp only at hSw);first|(go_simp;done)|(go_simp;with_reducible rfl))
     try simp only [Act.put, zB, zC, zD]
     refine wpAnyLast_ready (rs := [3]) (by kernel_rfl) (by simp) ?_
     refine AllReadyL.cons (o := Oper.mk _ _ _ _ _ _) rfl (by decide) (fun K hK => ?_) ?_
     ·refine rg_lit HB5 (by rfl) (.int .u8 (x : Int)) 5 (by first|(go_simp;done)|(go_simp;rfl)) ?_
      intro gN w6 sN HB6 hb
      have B06 := B05.below hb.out
      have B16 := B15.below hb.out
      have sN6 := sN.eqA (show (#[Value.int .u8 (x : Int)] : Array Value) = #[.int .u8 (((UInt8.ofNat x).toNat : Nat) : Int)] by rw [HB8.out])
      refine hK.out _ _ B16 (fun hS => ?_)
      clear hK K sN hb B05 B15 HB5
      try simp only [Act.put, zB, zC, zD]
      refine wpAnyLast_ready (rs := [4]) (by kernel_rfl) (by simp) ?_
      refine AllReadyL.cons (o := Oper.mk _ _ _ _ _ _) rfl (by decide) (fun K hK => ?_) ?_
      ·refine rg_str1 (by rfl) sN6 37 9 5 _ rfl rfl Tryd.underlying37 Tryd.underlying5 Tryd.underlying9 ?_
       rw [← HSTR.out]
       refine hK.out _ _ hS (fun hS => ?_)
       clear hK K sN6
       try simp only [Act.put, zB, zC, zD]
       refine wpAnyLast_ready (rs := [5]) (by kernel_rfl) (by simp) ?_
       refine AllReadyL.cons (o := Oper.mk _ _ _ _ _ _) rfl (by decide) (fun K hK => ?_) ?_
       ·refine rg_call (by rfl) _ _ (.agg (clsA tx)) (by first|(go_simp;done)|(go_simp;rfl)) (OF.out _) ?_
        intro W' hb
        have B07 := B06.below hb.out
        have B17 := B16.below hb.out
        have HB7 := HB6.step hb.out
        clear B06 B16 HB6
        refine hK.out _ _ B17 (fun hS => ?_)
        clear hK K
        try simp only [Act.put, zB, zC, zD]
        refine wpAnyLast_ready (rs := [6]) (by kernel_rfl) (by simp) ?_
        refine AllReadyL.cons (o := Oper.mk _ _ _ _ _ _) rfl (by decide) (fun K hK => ?_) ?_
        ·refine rg_call (by rfl) _ _ (.agg (clsA (joinC (lowC blx x) tx))) (by first|(go_simp;done)|(go_simp;rfl)) (block_Join.calls (lowC blx x) tx _) ?_
         intro W' hb
         have B08 := B07.below hb.out
         have B18 := B17.below hb.out
         have HB8' := HB7.step hb.out
         clear B07 B17 HB7
         refine hK.out _ _ B18 (fun hS => ?_)
         clear hK K
         try simp only [Act.put, zB, zC, zD]
         refine wpAnyLast_ready (rs := [7]) (by kernel_rfl) (by simp) ?_
         refine AllReadyL.cons_last (o := Oper.mk _ _ _ _ _ _) rfl (by decide) (fun K hK => ?_) ?_
         ·refine rg_store HB8' (by rfl) B18 GE_g1 111 _ _ rfl rfl rfl (sizeC' _) (by rw [clsA_size, clsA_size]) (clsA_one _) ?_
          intro w9 B9 HB9 K9
          have BO := B08.other K9 (Nat.ne_of_lt N01.out)
          refine hK.out _ _ ?_
          clear hK K
          try simp only [Act.put, zB, zC, zD]
          refine wpAnyLast_done (by kernel_rfl) ?_ _
          refine NoPanic.normal ?_
          go_wp2
          go_roundw
          case rel => exact ⟨x + 1, by go_num, ⟨by have := HLT.out;omega⟩, BO.eqA (low_skip sgx OX.out), B9.eqA (by rw [HT.out];exact low_put blx RX.out), HB9⟩
          case measure => (simp [intOf];have := HLT.out;omega)
         exact AllReadyL.nil
        exact AllReadyL.nil
       exact AllReadyL.nil
      exact AllReadyL.nil
     exact AllReadyL.nil
    ·have hb0 : blx x = false := by simpa using hb
     have hk2 : (kn == 2) = false := by rw [HKN.out];exact kindN_not_blank OX.out hb0
     have PX := zA hb0
     clear hb hb0
     go_wp2_with (first
     | (go_at_call 107;(with_reducible refine (KN.out _).mono ?_);rintro e w4 ⟨rfl, hb4⟩;have B04 := B0.below hb4;have B14 := B1.below hb4;have HB4 := HB.step hb4;clear hb4 B0 B1 HB))
     go_roundw
     case rel => exact ⟨x + 1, by go_num, ⟨by have := HLT.out;omega⟩, B04.eqA (low_skip sgx OX.out), B14.eqA (low_skip blx PX.out), HB4⟩
     case measure => (simp [intOf];have := HLT.out;omega)
  ·obtain rfl : x = 256 := by have := HX.out;omega
   clear hlt
   have C0 := B0.eqA (low_end sgx)
   have C1 := B1.eqA (low_end blx)
   have hbd : Aside0 (Below wr.heap.size wr wr.drew) := ⟨below_drew (Below.refl _ _)⟩
   have D0 := C0.below hbd.out
   have D1 := C1.below hbd.out
   have HB5 := HB.step hbd.out
   clear B0 B1 HB hbd
   go_upto_region 10 with (fail)
   refine wp_region_noPanic ?_
   refine wp_region_last_drew (S := fun W' => Blk W' g0 (clsA sgx) 111 ∧ Blk W' g1 (clsA blx) 111) (ds := []) (by kernel_rfl) ⟨D0, D1⟩ (fun hS => ?_)
   refine zM (i := 0) (oi := Oper.mk _ _ _ _ _ _) rfl (by kernel_rfl) (by kernel_rfl) (by kernel_rfl) (by kernel_rfl) (by kernel_rfl) (fun _ _ _ h => h) (rg_load (by rfl) (fun _ hS => hS.1) 111 _ rfl rfl Tryd.underlying111 rfl (sizeC' _)) hS ?_
   try simp only [Act.put, zB, zC, zD]
   refine zM (i := 1) (oi := Oper.mk _ _ _ _ _ _) rfl (by kernel_rfl) (by kernel_rfl) (by kernel_rfl) (by kernel_rfl) (by kernel_rfl) (fun _ _ _ h => h) (rg_load (by rfl) (fun _ hS => hS.2) 111 _ rfl rfl Tryd.underlying111 rfl (sizeC' _)) hS ?_
   try simp only [Act.put, zB, zC, zD]
   refine wpAnyLast_ready (rs := [2]) (by kernel_rfl) (by simp) ?_
   refine AllReadyL.cons (o := Oper.mk _ _ _ _ _ _) rfl (by decide) (fun K hK => ?_) ?_
   ·refine rg_store HB5 (by rfl) D0 GE_g0 111 _ _ rfl rfl rfl (sizeC' _) (by simp only [clsA_size]) (clsA_one _) ?_
    intro w6 E0 HB6 K2
    have E1 := D1.other K2 (Nat.ne_of_gt N01.out)
    refine hK.out _ _ ⟨E0, E1⟩ (fun hS => ?_)
    clear hK K
    try simp only [Act.put, zB, zC, zD]
    refine wpAnyLast_ready (rs := [3]) (by kernel_rfl) (by simp) ?_
    refine AllReadyL.cons (o := Oper.mk _ _ _ _ _ _) rfl (by decide) (fun K hK => ?_) ?_
    ·refine rg_store HB6 (by rfl) E1 GE_g1 111 _ _ rfl rfl rfl (sizeC' _) (by simp only [clsA_size]) (clsA_one _) ?_
     intro w7 F1 HB7 K3
     have F0 := E0.other K3 (Nat.ne_of_lt N01.out)
     refine hK.out _ _ ⟨F0, F1⟩ (fun hS => ?_)
     clear hK K
     try simp only [Act.put, zB, zC, zD]
     refine wpAnyLast_done (by kernel_rfl) ?_ _
     refine NoPanic.normal ?_
     go_wp2
     exact bodyPost_ret (results_cells2 rfl _ _ g0 g1 111 _ _ _ rfl rfl F0 F1 Tryd.underlying111 rfl (sizeC' _) (sizeC' _)) rfl ⟨rfl, HB7.out⟩
    exact AllReadyL.nil
   exact AllReadyL.nil
end


open Go.Proofs.YtgddljealeklkaaDoorQ Go.Proofs.YtgddljealeklkaaDoorM in
set_option maxHeartbeats 400000 in
set_option maxRecDepth 100000 in
theorem block_Mask.calls (f : Nat → Int) (hf : ∀ i, 0 ≤ f i ∧ f i < 256) (p : Nat → Bool) (w : World) :
  Calls Tryd.prog 85 #[.agg (blkA f), .agg (clsA p)] w fun e w' => e = .returned (.int .u64 (iv (word fun j => p (f j).toNat))) ∧ Below w.heap.size w w' := by
 have HB := BelowH.refl w
 have HF := zA fun i => hf i
 clear hf
 go_enter Tryd.func85, Tryd.ntmps85
 go_upto_region 1 with (first
  | ((with_reducible refine gate_dst (N := 2) rfl ?_);refine ev_alloc HB rfl (blkA f) 85 ?hr ?_;(case hr => first|(go_simp;done)|(go_simp;rfl));intro g0 w1 G_g0 GE_g0 B_g0 HBn K_g0;clear HB;have HB := HBn;clear HBn)
  | ((with_reducible refine gate_dst (N := 3) rfl ?_);refine ev_alloc HB rfl (clsA (p)) 111 ?hr ?_;(case hr => first|(go_simp;done)|(go_simp;rfl));intro g1 w2 G_g1 GE_g1 B_g1 HBn K_g1;clear HB;have HB := HBn;clear HBn))
 obtain ⟨bz, hbz⟩ : ∃ bz, bz = ((List.range 4).all fun j => iv (clsW p j) == 0) := ⟨_, rfl⟩
 have EQ : ∀ (W : World), (Op.equalIn 10000 109 (.agg (clsA p)) (.agg #[.int .u64 0, .int .u64 0, .int .u64 0, .int .u64 0])).run Tryd.prog W = .ok bz W := by
  intro W
  rw [hbz]
  exact run_eqArr (P := Tryd.prog) Tryd.underlying109 (by kernel_rfl) (by kernel_rfl) Tryd.underlying75 (fun j => iv (clsW p j)) (fun _ => 0) (fun j hj => clsA_get _ hj) (fun j hj => by
   have : ∀ j : Fin 4, (#[.int .u64 0, .int .u64 0, .int .u64 0, .int .u64 0] : Array Value)[j.val]? = some (.int .u64 0) := by
    intro j
    match j with
    | 0 => rfl
    | 1 => rfl
    | 2 => rfl
    | 3 => rfl
   exact this ⟨j, hj⟩) 9998 W
 cases bz with
 | true =>
  have HN := zA (cls_none hbz.symm)
  clear hbz
  go_wp2_with (first
   | ((with_reducible refine gate_dst (N := 9) rfl ?_);refine ev_loadS B_g1 rfl 109 _ rfl rfl Tryd.underlying109 rfl (size4' _) ?_))
  go_ret
  exact ⟨by rw [word_none fun i _ => HN.out _ (by have := HF.out i;omega)];rfl, HB.out⟩
 | false =>
  clear hbz
  go_upto_region 3 with (first
   | ((with_reducible refine gate_dst (N := 9) rfl ?_);refine ev_loadS B_g1 rfl 109 _ rfl rfl Tryd.underlying109 rfl (size4' _) ?_))
  clear EQ
  go_wp2_with (first
   | ((with_reducible refine gate_dst (N := 12) rfl ?_);refine ev_loadS (B_g0.below K_g1.out) rfl 85 _ rfl rfl Tryd.underlying85 rfl (size64' _) ?_))
  go_loopw [5, 13] (fun v5 v13 wr => ∃ i : Nat, i ≤ 64 ∧ v13 = .int .i64 i ∧ v5 = .int .u64 (iv (word fun j => decide (j < i) && p (f j).toNat)) ∧ Blk wr g1 (clsA p) 111 ∧ BelowH w wr) (fun _ v13 _ => 64 - (intOf v13).toNat)
  case atStart => exact ⟨0, by omega, rfl, by rw [word_none];simp, B_g1, HB⟩
  case round =>
   clear B_g0 B_g1 HB
   obtain ⟨i, hi, rfl, rfl, B1, HB⟩ := hrel
   by_cases hlt : i < 64
   ·obtain ⟨x, hx⟩ : ∃ x : Nat, f i = (x : Int) := ⟨(f i).toNat, by have := HF.out i;omega⟩
    have hx6 : x < 256 := by have := HF.out i;omega
    obtain ⟨k, hk⟩ : ∃ k : Nat, k = x / 64 := ⟨_, rfl⟩
    obtain ⟨m, hm⟩ : ∃ m : Nat, m = x % 64 := ⟨_, rfl⟩
    have hk1 : (x : Int) / 64 = (k : Int) := by omega
    have hk4 : (k : Int) < 4 := by omega
    have hm1 : bits .and .u8 (x : Int) 63 = (m : Int) := by rw [bits_and_u8_63 _ hx6, hm]
    have hm4 : (m : Int) < 64 := by omega
    have hc := B1.cell (clsA_get p (show k < 4 by omega))
    have hfi := blkA_get f hlt
    rw [hx] at hfi
    have IX : ∀ W : World, (Instr.index 85 (.agg (blkA f)) (.int .i64 (i : Int))).run Tryd.prog W = .ok (.int .u8 (x : Int)) W := fun W => run_index_arr (P := Tryd.prog) Tryd.underlying85 (by kernel_rfl) (by kernel_rfl) (by kernel_rfl) hlt hfi .i64 W
    have ST := zA (mask_step_at p f hx hk hm hlt)
    have KI := zA hlt
    have h1 : (i : Int) < 64 := by omega
    clear hx hx6 hk hm hlt hfi hi
    go_wp2
    go_roundw
    case rel => exact ⟨i + 1, by have := KI.out;omega, by go_num, by rw [ST.out], B1, HB⟩
    case measure =>
     simp [intOf]
     have := KI.out
     omega
   ·obtain rfl : i = 64 := by omega
    go_wp2
    go_ret
    exact ⟨by rw [word_done];rfl, HB.out⟩


end Go.Proofs.YtgddljealeklkaaDoor.PL
end
