/-
  EscapeKeeps: for every two texts of at most 1048576 bytes: the walk tells all.
-/
import Derived.Test.YtagcilcdgckbeaaPEx3
namespace Go.Proofs.Ytagcilcdgckbeaa.Pure
open Go Go.RowKit Go.Proofs.Ytagcilcdgckbeaa.PE Go.Proofs.YtagcilcdgckbeaaW.PrintWords Go.Proofs.YtagcilcdgckbeaaW.PrintLast Go.Proofs.YtagcilcdgckbeaaQ
set_option linter.unusedVariables false
set_option linter.unusedSimpArgs false
theorem EscapeKeeps (s t : ByteArray) (h1 : s.size ≤ 1048576) (h2 : t.size ≤ 1048576) : ∃ k, quarrylaw06_EscapeKeeps.f k s t = some true := ⟨0, by
  unfold quarrylaw06_EscapeKeeps.f
  rw [if_pos ⟨h1, h2⟩]⟩

end Go.Proofs.Ytagcilcdgckbeaa.Pure
