/-
  The table of math/bits, which stands in block 0, hidden from the walk.
-/
import Derived.Test.YtadcgjmhhodnoaaDoorMa
import Derived.Test.YtadcgjmhhodnoaaDoorMb
import Derived.Test.YtadcgjmhhodnoaaDoorTs
namespace Go.Proofs.YtadcgjmhhodnoaaDoorM
open Go Go.RowKit Go.Lib Go.Proofs.YtadcgjmhhodnoaaDoorW.PrintWords Go.Proofs.YtadcgjmhhodnoaaDoorW.PrintLast Go.Proofs.YtadcgjmhhodnoaaDoorW.PrintMore
/-- Block 0 holds the table. -/
structure TabOk (w : World) : Prop where mk :: (out : Go.Proofs.TabAt 0 Lib.deBruijn64tab w)
theorem TabOk.heap {w W : World} (h : TabOk w) (e : W.heap[0]? = w.heap[0]?) : TabOk W := ⟨fun j hj => by
  have := h.out j hj
  unfold World.cell? at this ⊢
  rw [e]
  exact this⟩
theorem TabOk.pos {w : World} (h : TabOk w) : 0 < w.heap.size := World.block_lt_of_cell? w _ (h.out 0 (by decide))
theorem TabOk.below {w W : World} (h : TabOk w) {B : Nat} (hB : 0 < B) (hb : Below B w W) : TabOk W := h.heap (hb.block 0 hB)
/-- What the calls' own words say: nothing that lay there has turned. -/
theorem TabOk.step {w W : World} (h : TabOk w) (hb : Below w.heap.size w W) : TabOk W := h.below h.pos hb
theorem TabOk.stepH {w W : World} (h : TabOk w) (hb : BelowH w W) : TabOk W := h.step hb.out
theorem TabOk.keep {g : Nat} {w W : World} (h : TabOk w) (k : Keep2 0 g w W) : TabOk W := h.heap k.1
theorem TabOk.other {g : Nat} {w W : World} (h : TabOk w) (hg : 0 < g) (K : Aside0 (w.heap.size ≤ W.heap.size ∧ ∀ k, k ≠ g → W.heap[k]? = w.heap[k]?)) : TabOk W := h.heap (K.out.2 0 (by omega))
theorem TabOk.drewN {w : World} (h : TabOk w) (n : Nat) : TabOk (w.drewN n) := h.heap rfl
theorem TabOk.drew {w : World} (h : TabOk w) : TabOk w.drew := h.heap rfl
/-- It abides the turn of a block that holds no cells. -/
theorem TabOk.kept {w W : World} (h : TabOk w) {row : Option Nat} (hg : w.grownBy W row) (hr : ∀ r, row = some r → ∃ o : Obj, w.heap[r]? = some o ∧ o.isCells = false) : TabOk W :=
  h.heap (hg.block 0 h.pos (fun e => by
    obtain ⟨o, ho, hc⟩ := hr 0 e.symm
    have := h.out 0 (by decide)
    unfold World.cell? at this
    rw [ho] at this
    cases o <;> simp_all [Obj.isCells]))
end Go.Proofs.YtadcgjmhhodnoaaDoorM
