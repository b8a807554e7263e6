/-
  A range over a function whose iterator holds a range over a function itself (so it lays and turns loop records of its own): the iterator's word 'SeqO' and the caller's law. No function of the program in sight.
-/
import Derived.Test.YtadcgjmhhodnoaaDoorMb
import Derived.RangeFuncNested
import Derived.RangeFuncBound
namespace Go.Proofs.YtadcgjmhhodnoaaDoorM
open Go Go.RowKit Go.Lib Go.Proofs.YtadcgjmhhodnoaaDoorW.PrintWords Go.Proofs.YtadcgjmhhodnoaaDoorW.PrintLast Go.Proofs.YtadcgjmhhodnoaaDoorW.PrintMore
/-- Nothing but the blocks of X has turned; new ones may have come. -/
structure Turned (X : List Nat) (W W' : World) : Prop where mk ::
  os : W'.os = W.os
  tape : W'.tape = W.tape
  output : W'.output = W.output
  size : W.heap.size ≤ W'.heap.size
  block : ∀ k, k < W.heap.size → k ∉ X → W'.heap[k]? = W.heap[k]?
theorem Turned.mono {X Y : List Nat} {W W' : World} (h : Turned X W W') (hXY : ∀ k ∈ X, k ∈ Y) : Turned Y W W' := ⟨h.os, h.tape, h.output, h.size, fun k hk hn => h.block k hk fun c => hn (hXY k c)⟩
theorem Turned.of_below {X : List Nat} {W W' : World} (h : Below W.heap.size W W') : Turned X W W' := ⟨h.os, h.tape, h.output, h.size, fun k hk _ => h.block k hk⟩
theorem Turned.below {X : List Nat} {w W W' : World} {B : Nat} (h : Turned X W W') (hX : ∀ k ∈ X, B ≤ k) (hB : B ≤ W.heap.size) (k : Below B w W) : Below B w W' := ⟨h.os.trans k.os, h.tape.trans k.tape, h.output.trans k.output, Nat.le_trans k.size h.size, fun i hi => (h.block i (by omega) (fun c => by have := hX i c; omega)).trans (k.block i hi)⟩
theorem Blk.turned {X : List Nat} {W W' : World} {g : Nat} {cs : Array Value} {t : Nat} (b : Blk W g cs t) (h : Turned X W W') (hg : g ∉ X) : Blk W' g cs t := ⟨(h.block g b.lt hg).trans b.out⟩
theorem Turned.keep {X : List Nat} {W W' : World} {g : Nat} (h : Turned X W W') (hg : g < W.heap.size) (hX : ∀ k ∈ X, g < k) : W'.heap[g]? = W.heap[g]? := h.block g hg (fun c => Nat.lt_irrefl _ (hX g c))
theorem not_mem_above {X : List Nat} {B g : Nat} (hX : ∀ k ∈ X, B ≤ k) (hg : g < B) : g ∉ X := fun c => by have := hX g c; omega
/-- A world cut off at a block: whatever lies there and behind is the call's own. -/
theorem below_cut (W : World) (g : Nat) (h : g ≤ W.heap.size) : ∃ w0, BelowH w0 W ∧ w0.heap.size = g :=
  ⟨{ W with heap := W.heap.extract 0 g }, ⟨⟨rfl, rfl, rfl, by simp; exact Nat.min_le_right _ _, fun k hk => by
    simp at hk
    show W.heap[k]? = (W.heap.extract 0 g)[k]?
    rw [Array.getElem?_extract]
    simp
    omega⟩⟩, by simp; omega⟩
/-- What the iterator owes. X: blocks that the iterator has laid for itself since its call began: the rounds let them lie; so they do with what is no cells. -/
def SeqO {α : Type} (F : Fence) (n : Nat) (P : Program) (g : Nat) (lb : Array Value) (encs : α → Array Value) (Kp : World → World → Prop) (S Sp : List α → Prop) (w : World) : Prop :=
  ∀ (l : Nat) (J : List Nat → List α → World → Prop) (Jx : List α → World → Prop) (W : World), Below w.heap.size w W → (∀ X, OwnFrom W.heap.size (J X)) → OwnFrom W.heap.size Jx →
    (∀ X pre W1 k, J X pre W1 → W1.heap.size ≤ k → J (k :: X) pre W1) → (∀ X pre W1 W2, (∀ k ∈ X, W.heap.size ≤ k) → J X pre W1 → Turned X W1 W2 → J X pre W2) →
    (∀ X pre x W1, (∀ k ∈ X, W.heap.size ≤ k ∧ k < W1.heap.size) → J X pre W1 → Sp (pre ++ [x]) → YieldAt F (n - 1) P l (encs x) W1 fun e W' => KeepsFrom W.heap.size W1 W' ∧ (∀ k ∈ X, W'.heap[k]? = W1.heap[k]?) ∧
      ((e = .returned (.bool true) ∧ J X (pre ++ [x]) W' ∧ Kp W1 W') ∨ (e = .returned (.bool false) ∧ Jx (pre ++ [x]) W'))) →
    J [] [] W →
    CallsIn F n P g (#[.func (.yield l) #[] #[]] ++ lb) W fun e W' => (∃ v, e = .returned v) ∧ ((∃ xs X, S xs ∧ (∀ k ∈ X, W.heap.size ≤ k ∧ k < W'.heap.size) ∧ J X xs W') ∨ (∃ pre, Sp pre ∧ Jx pre W'))
/-- How a round's body may be left. -/
def postO {α : Type} (B : Nat) (X : List Nat) (Kp : World → World → Prop) (I : List Nat → List α → World → Prop) (Ix : Code → List α → World → Prop) (xs : List α) (W : World) : Exit → Act → World → Prop
  | .normal, _, W' => KeepsFrom B W W' ∧ (∀ k ∈ X, W'.heap[k]? = W.heap[k]?) ∧ Kp W W' ∧ I X xs W'
  | .ret, _, W' => KeepsFrom B W W' ∧ (∀ k ∈ X, W'.heap[k]? = W.heap[k]?) ∧ Ix .ret xs W'
  | .exit id, _, W' => KeepsFrom B W W' ∧ (∀ k ∈ X, W'.heap[k]? = W.heap[k]?) ∧ Ix (.exit id) xs W'
  | .goto t, _, W' => KeepsFrom B W W' ∧ (∀ k ∈ X, W'.heap[k]? = W.heap[k]?) ∧ Ix (.goto t) xs W'
  | .panic _, _, _ => False
  | .outgrown, _, _ => False
/-- A round, asked for in a round of a loop of one's own, at the wide fence. -/
theorem roundIn_wide {F : Fence} (HF : Aside0 (F = Fence.wide)) {m m' l0 : Nat} {P : Program} {l : Nat} {f : FuncId} {tmps : Array Value} {assign body : Code} {w : World} {R : Ending → World → Prop} (h : RoundIn F m P l f tmps assign body w R) :
    RoundIn (F.inRound l0) m' P l f tmps assign body w R := by
  have e := HF.out
  subst e
  exact ⟨h.1, fun c cs _ => h.2 c cs (room_wide _)⟩
theorem roundIn_any {F : Fence} (HF : Aside0 (F = Fence.wide)) {m m' : Nat} {P : Program} {l : Nat} {f : FuncId} {tmps : Array Value} {assign body : Code} {w : World} {R : Ending → World → Prop} (h : RoundIn F m P l f tmps assign body w R) :
    RoundIn F m' P l f tmps assign body w R := by
  have e := HF.out
  subst e
  exact ⟨h.1, fun c cs _ => h.2 c cs (room_wide _)⟩
section
variable {F : Fence} {n : Nat} {P : Program} {w : World} {W : World}
/-- The caller's two blocks. -/
structure Recs (m : Nat) (r : Loop) (W : World) : Prop where mk ::
  at_ : W.heap[m + 1]? = some (.loop r)
  de : W.heap[m]? = some (.deferred (some []))
theorem Recs.keep {m : Nat} {r : Loop} {W W' : World} (h : Recs m r W) (k : KeepsFrom m W W') : Recs m r W' := ⟨k.same _ _ (by omega) h.at_ rfl, k.same _ _ (Nat.le_refl _) h.de rfl⟩
theorem Recs.turn {m : Nat} {r : Loop} {W : World} (h : Recs m r W) (r' : Loop) : Recs m r' (W.putObj (m + 1) (.loop r')) :=
  ⟨World.putObj_heap_same (Array.getElem?_eq_some_iff.1 h.at_).1, (World.putObj_heap_other (by omega)).trans h.de⟩
theorem Recs.own {m : Nat} {r : Loop} {β : Type} {B : Nat} (hB : m + 2 ≤ B) : OwnFrom B (fun (_ : β) W => Recs m r W) := fun _ A C row hs hg hr =>
  ⟨(hg.block _ (Array.getElem?_eq_some_iff.1 hs.at_).1 (fun e => by have := (hr _ e.symm).1; omega)).trans hs.at_,
   (hg.block _ (Array.getElem?_eq_some_iff.1 hs.de).1 (fun e => by have := (hr _ e.symm).1; omega)).trans hs.de⟩
theorem keeps_putObj {B l : Nat} {W : World} (o : Obj) (h : l < B) : KeepsFrom B W (W.putObj l o) := ⟨by simp, fun k o' hk hs _ => (World.putObj_heap_other (by omega)).trans hs⟩
theorem KeepsFrom.up {B B' : Nat} {W W' : World} (h : KeepsFrom B W W') (hB : B ≤ B') : KeepsFrom B' W W' := ⟨h.size, fun k o hk => h.same k o (Nat.le_trans hB hk)⟩
set_option maxHeartbeats 400000 in
/-- The caller's law. -/
theorem wpIn_rangeFunc_O {α : Type} {g : Operand} {ps : Array Tmp} {assign body : Code} {Q : Exit → Act → World → Prop} {a : Act} {w : World}
    (hro : F.round = none) (h1 : 1 ≤ n) {gf : Nat} {lb : Array Value} (hg : a.eval g = .func (.func gf) #[] lb) (hFg : F.fn gf) (eg : ∀ args w, (callFunc gf args).run P w = .ok (.enter gf args) w)
    {encs : α → Array Value} {Kp : World → World → Prop} {S Sp : List α → Prop} {w0 : World} (hseq : SeqO F (n - 1) P gf lb encs Kp S Sp w0)
    (hKt : ∀ {A B C : World}, Kp A B → Kp B C → Kp A C) (hKb : ∀ (W : World) (l : Nat) (o o' : Obj), w.heap.size ≤ l → W.heap[l]? = some o → o.isCells = false → o.isWalk = false → Kp W (W.putObj l o')) (hb0 : Below w0.heap.size w0 w) (hps : ∀ x, (encs x).size = ps.size)
    (I : List Nat → List α → World → Prop) (Ix : Code → List α → World → Prop) (hI : ∀ X, OwnFrom w.heap.size (I X)) (hIx : ∀ c, OwnFrom w.heap.size (Ix c)) (hE : ∀ X pre W k, I X pre W → W.heap.size ≤ k → I (k :: X) pre W) (hA : ∀ X pre W W', (∀ k ∈ X, w.heap.size ≤ k) → I X pre W → Turned X W W' → I X pre W') (h0 : I [] [] w) (Ax : α → Act → World → Prop) (hAx : ∀ x a', OwnFrom w.heap.size (fun (_ : Unit) W => Ax x a' W))
    (hassign : ∀ (X : List Nat) (l : Nat) (pre : List α) (x : α) (W : World) (K : Act → World → Prop), (∀ k ∈ X, w.heap.size ≤ k ∧ k < W.heap.size) → I X pre W → Sp (pre ++ [x]) → (∀ a' W', KeepsFrom w.heap.size W W' → (∀ k ∈ X, W'.heap[k]? = W.heap[k]?) → Kp W W' → I X pre W' → Ax x a' W' → K a' W') →
      assign.wpIn (F.inRound l) (n - 1 - 1) P (Exit.then K (fun _ _ _ => False)) { tmps := (ps.zip (encs x)).foldl (fun t (p, v) => t.setIfInBounds p v) a.tmps, defers := [] } W)
    (hbody : ∀ (X : List Nat) (l : Nat) (pre : List α) (x : α) (a' : Act) (W : World), (∀ k ∈ X, w.heap.size ≤ k ∧ k < W.heap.size) → w.heap.size ≤ l → (∃ r, W.heap[l]? = some (.loop r)) → I X pre W → Ax x a' W → Sp (pre ++ [x]) → body.wpIn (F.inRound l) (n - 1 - 1) P (postO w.heap.size X Kp I Ix (pre ++ [x]) W) a' W)
    (hdone : ∀ (D : Nat) (X : List Nat) (xs : List α) (W : World), w.heap.size ≤ D → (∀ k ∈ X, w.heap.size ≤ k ∧ k < W.heap.size) → S xs → I X xs W → W.heap[D]? = some (.deferred (some [])) → Q .normal { a with defers := { target := .collected D, args := #[] } :: a.defers } W)
    (hstop : ∀ (D : Nat) (c : Code) (pre : List α) (W : World), w.heap.size ≤ D → Sp pre → Ix c pre W → W.heap[D]? = some (.deferred (some [])) → c.wpIn F n P Q { a with defers := { target := .collected D, args := #[] } :: a.defers } W) :
    (Code.rangeFunc g ps assign body).wpIn F n P Q a w := by
  refine wpIn_rangeFunc fun fn hfn => ?_
  rw [hro]
  obtain ⟨m, hm⟩ : ∃ m, m = w.heap.size := ⟨_, rfl⟩
  obtain ⟨rc, hrc⟩ : ∃ rc : LoopState → Option Code → Loop, rc = fun st pe => { state := st, pending := pe, fn, tmps := a.tmps, params := ps, assign, body, defers := m } := ⟨_, rfl⟩
  obtain ⟨W1, hW1⟩ : ∃ W1, W1 = (w.alloc (.deferred (some []))).alloc (.loop (rc .ready none)) := ⟨_, rfl⟩
  have hs1 : W1.heap.size = m + 2 := by rw [hW1]; simp [hm]
  have hR1 : Recs m (rc .ready none) W1 := by
    rw [hW1]
    refine ⟨?_, (Below.heap_alloc _ _ _ (by simp [hm])).trans (by rw [hm]; exact World.alloc_heap_new w _)⟩
    have := World.alloc_heap_new (w.alloc (.deferred (some []))) (.loop (rc .ready none))
    rwa [World.size_alloc, ← hm] at this
  have hI1 : I [] [] W1 := by
    rw [hW1]
    exact (hI []).alloc _ ((hI []).alloc _ h0)
  have hb1 : Below w0.heap.size w0 W1 := by
    rw [hW1]
    exact hb0.trans ((((Below.refl _ w).alloc (Nat.le_refl _) _).alloc (by simp) _).mono hb0.size)
  simp only [← hm] at hI hKb hdone hstop hbody hassign hIx hAx hA
  have hup : ∀ {β : Type} {J : β → World → Prop}, OwnFrom m J → OwnFrom W1.heap.size J := fun h s A C row hs hg hr => h s A C row hs hg (fun r e => ⟨by have := (hr r e).1; omega, (hr r e).2⟩)
  have hgo := hseq (m + 1) (fun X pre W => I X pre W ∧ Recs m (rc .ready none) W) (fun pre W => ∃ c, Ix c pre W ∧ Recs m (rc .done (some c)) W) W1 hb1
    (fun X => (hup (hI X)).and (Recs.own (by omega)))
    (fun s A C row hs hg hr => by
      obtain ⟨c, hc, hl⟩ := hs
      exact ⟨c, hup (hIx c) s A C row hc hg hr, Recs.own (β := Unit) (Nat.le_of_eq hs1.symm) () A C row hl hg hr⟩)
    (fun X pre A k hs hk => ⟨hE X pre A k hs.1 hk, hs.2⟩)
    (fun X pre A C hX hs ht => ⟨hA X pre A C (fun k hk => by have := hX k hk; omega) hs.1 ht, (ht.block _ (Array.getElem?_eq_some_iff.1 hs.2.at_).1 (not_mem_above hX (by omega))).trans hs.2.at_, (ht.block _ (Array.getElem?_eq_some_iff.1 hs.2.de).1 (not_mem_above hX (by omega))).trans hs.2.de⟩)
  refine ⟨m + 1, [{ target := .collected m, args := #[] }], W1, { target := .fn (.func gf) lb, args := #[.func (.yield (m + 1)) #[] #[]] }, W1, gf, #[.func (.yield (m + 1)) #[] #[]] ++ lb, W1, ?_, ?_, ?_, ?_, fun _ => h1, ?_⟩
  · rw [hW1, hrc, hm]
    exact run_enterLoop_outer _ _ _ _ _
  · simp only [resolve, hg]
    simp [go_sem]
  · intro f' hf'
    simp [Target.leads] at hf'
    subst hf'
    exact hFg
  · simp [invoke, go_sem, eg]
  have hgo2 := hgo ?round ⟨hI1, hR1⟩
  case round =>
    rintro X pre x W hX ⟨hi, hl⟩ hlen
    have hXm : ∀ k ∈ X, m ≤ k ∧ k < W.heap.size := fun k hk => by have := hX k hk; omega
    have hXp : ∀ (A : World) (o : Obj), ∀ k ∈ X, (A.putObj (m + 1) o).heap[k]? = A.heap[k]? := fun A o k hk => World.putObj_heap_other (by have := hX k hk; omega)
    have hy := run_yield (P := P) (args := encs x) hl.at_ (by rw [hrc]; exact hps x)
    rw [hrc] at hy
    refine ⟨fn, _, assign, body, hy, roundIn_of_wpIn hfn (hassign X _ pre x W _ hXm hi hlen fun a' Wa hka hxa hpa hia hax => ?_)⟩
    clear hy
    have hla := hl.keep hka
    have hlt : m + 1 < Wa.heap.size := (Array.getElem?_eq_some_iff.1 hla.at_).1
    have hl2 := hla.turn { rc .ready none with state := .busy }
    refine ⟨_, run_beginRound hla.at_ (by rw [hrc]), ?_⟩
    have hp2 := hKb Wa (m + 1) _ (.loop { rc .ready none with state := .busy }) (by omega) hla.at_ rfl rfl
    have kb : KeepsFrom W1.heap.size W (Wa.putObj (m + 1) (.loop { rc .ready none with state := .busy })) := (KeepsFrom.up hka (by omega)).trans (keeps_putObj _ (by omega))
    refine wpIn_mono (hbody X (m + 1) pre x a' _ (fun k hk => ⟨(hXm k hk).1, by have h1 := (hXm k hk).2; have h2 := hka.size; simp; omega⟩) (by omega) ⟨_, hl2.at_⟩ ((hI X).putObj _ hia (by omega) hla.at_ rfl) ((hAx x a').putObj (s := ()) _ hax (by omega) hla.at_ rfl) hlen) ?_
    have fin : ∀ (jump : Option Code) (W3 : World), KeepsFrom m (Wa.putObj (m + 1) (.loop { rc .ready none with state := .busy })) W3 → ∃ r', (Instr.endRound (m + 1) jump).run P W3 = .ok (.bool jump.isNone) (W3.putObj (m + 1) (.loop r')) ∧ r' = rc (if jump.isNone then .ready else .done) jump ∧
        Recs m { rc .ready none with state := .busy } W3 ∧ Recs m r' (W3.putObj (m + 1) (.loop r')) ∧ KeepsFrom W1.heap.size W (W3.putObj (m + 1) (.loop r')) := fun jump W3 hk3 => by
      have hl3 := hl2.keep hk3
      have hr := run_endRound (P := P) jump hl3.at_
      refine ⟨_, hr, by rw [hrc], hl3, hl3.turn _, (kb.trans (KeepsFrom.up hk3 (by omega))).trans (keeps_putObj _ (by omega))⟩
    have hxx : ∀ (W3 : World) (r' : Loop), (∀ k ∈ X, W3.heap[k]? = (Wa.putObj (m + 1) (.loop { rc .ready none with state := .busy })).heap[k]?) → ∀ k ∈ X, (W3.putObj (m + 1) (.loop r')).heap[k]? = W.heap[k]? := fun W3 r' h k hk =>
      ((hXp W3 _ k hk).trans (h k hk)).trans ((hXp Wa _ k hk).trans (hxa k hk))
    rintro e a3 W3 hp
    cases e with
    | normal =>
      obtain ⟨hk3, hx3, hkp3, hi3⟩ := hp
      obtain ⟨r', hr, he, hl3, hl4, hk4⟩ := fin none W3 hk3
      refine ⟨_, _, hr, hk4, hxx W3 r' hx3, .inl ⟨rfl, ⟨(hI X).putObj _ hi3 (by omega) hl3.at_ rfl, by
        rw [show rc .ready none = r' from he.symm]
        exact hl4⟩, hKt hpa (hKt (hKt hp2 hkp3) (hKb _ _ _ _ (by omega) hl3.at_ rfl rfl))⟩⟩
    | ret =>
      obtain ⟨hk3, hx3, hi3⟩ := hp
      obtain ⟨r', hr, he, hl3, hl4, hk4⟩ := fin (some .ret) W3 hk3
      exact ⟨_, _, hr, hk4, hxx W3 r' hx3, .inr ⟨rfl, .ret, (hIx _).putObj _ hi3 (by omega) hl3.at_ rfl, by
        rw [show rc .done (some .ret) = r' from he.symm]
        exact hl4⟩⟩
    | exit id =>
      obtain ⟨hk3, hx3, hi3⟩ := hp
      obtain ⟨r', hr, he, hl3, hl4, hk4⟩ := fin (some (.exit id)) W3 hk3
      exact ⟨_, _, hr, hk4, hxx W3 r' hx3, .inr ⟨rfl, .exit id, (hIx _).putObj _ hi3 (by omega) hl3.at_ rfl, by
        rw [show rc .done (some (.exit id)) = r' from he.symm]
        exact hl4⟩⟩
    | goto t =>
      obtain ⟨hk3, hx3, hi3⟩ := hp
      obtain ⟨r', hr, he, hl3, hl4, hk4⟩ := fin (some (.goto t)) W3 hk3
      exact ⟨_, _, hr, hk4, hxx W3 r' hx3, .inr ⟨rfl, .goto t, (hIx _).putObj _ hi3 (by omega) hl3.at_ rfl, by
        rw [show rc .done (some (.goto t)) = r' from he.symm]
        exact hl4⟩⟩
    | panic ch => exact hp.elim
    | outgrown => exact hp.elim
  · refine hgo2.mono ?_
    rintro e W2 ⟨⟨v, rfl⟩, (⟨xs, X, hS, hXr, hi, hl⟩ | ⟨pre, hSp, c, hi, hl⟩)⟩
    · have he := run_endLoop (P := P) hl.at_ (by rw [hrc]; simp)
      rw [hrc] at he
      exact ⟨none, _, he, hdone _ X xs _ (Nat.le_refl _) (fun k hk => ⟨by have := hXr k hk; omega, by have := (hXr k hk).2; simp; omega⟩) hS ((hI X).putObj _ hi (by omega) hl.at_ rfl) ((World.putObj_heap_other (by omega)).trans hl.de)⟩
    · have he := run_endLoop (P := P) hl.at_ (by rw [hrc]; simp)
      rw [hrc] at he
      exact ⟨some c, _, he, hstop _ c pre _ (Nat.le_refl _) hSp ((hIx c).putObj _ hi (by omega) hl.at_ rfl) ((World.putObj_heap_other (by omega)).trans hl.de)⟩
end
end Go.Proofs.YtadcgjmhhodnoaaDoorM
