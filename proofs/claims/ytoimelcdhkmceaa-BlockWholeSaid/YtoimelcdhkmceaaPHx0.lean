-- Written by a program (myprint.py, over the kit's print) for this claim. Not trusted: Lean checks it.
import Derived.Test.YtoimelcdhkmceaaProg
import Derived.Below
import Derived.Deep.Draws
import Derived.Deep.AppendLies
import Derived.Maps.AppendAt
import Derived.OwnWalk
import Derived.Laws.BytesArg
import Derived.Laws.MakeOwn
import Derived.Laws.OwnMore
import Derived.Deep.OwnRows
import Derived.Tactics
import Derived.Lib.ConvBytes
import Derived.Laws.Slices
import Derived.WalkKit
import Derived.KernelRfl
import Derived.RowKit3
import Derived.Deep.LoopGhost
import Derived.Deep.QuietTactic
import Derived.BigQuiet
import Derived.WideLaws
import Derived.Deep.DeepCutAuto
import Derived.Deep.CutBlock
import Derived.Deep.RegionHeld3
import Derived.Laws.Rows
import Derived.Lib.AppendStr
import Derived.ArgAppend
import Derived.Laws.IdiomCopy
import Derived.OrdersHeld
import Derived.Laws.BitsLemmas
import Derived.RowKit
import Derived.Test.YtoimelcdhkmceaaMa
import Derived.Test.YtoimelcdhkmceaaMd
import Derived.Test.YtoimelcdhkmceaaQc
import Derived.Test.YtoimelcdhkmceaaQb
import Derived.Test.YtoimelcdhkmceaaMb
import Derived.Test.YtoimelcdhkmceaaQd
import Derived.Test.YtoimelcdhkmceaaMc
import Derived.Test.YtoimelcdhkmceaaMg
import Derived.Test.YtoimelcdhkmceaaMe
import Derived.Test.YtoimelcdhkmceaaWWords
import Derived.Test.YtoimelcdhkmceaaWLast
import Derived.Test.YtoimelcdhkmceaaWTab
import Derived.Test.YtoimelcdhkmceaaWFour
import Derived.Test.YtoimelcdhkmceaaWQPut
import Derived.Test.YtoimelcdhkmceaaWApart
import Derived.Test.YtoimelcdhkmceaaWArr
import Derived.Test.YtoimelcdhkmceaaWZeros
import Derived.Test.YtoimelcdhkmceaaWFoot
import Derived.Test.YtoimelcdhkmceaaWKept
import Derived.Test.YtoimelcdhkmceaaWShare
import Derived.Test.YtoimelcdhkmceaaWN
import Derived.Test.YtoimelcdhkmceaaWFootNe
import Derived.Test.YtoimelcdhkmceaaWAt
import Derived.Test.YtoimelcdhkmceaaWEqStruct
import Derived.Test.YtoimelcdhkmceaaWRepsOne
import Derived.Test.YtoimelcdhkmceaaWInv
import Derived.Test.YtoimelcdhkmceaaWInvWords
import Derived.Test.YtoimelcdhkmceaaWGuard
import Derived.Test.YtoimelcdhkmceaaWNEv
import Derived.Test.YtoimelcdhkmceaaWMore
namespace Go.Proofs.Ytoimelcdhkmceaa.PH
open Go.RowKit Go.Proofs.YtoimelcdhkmceaaW.PrintWords Go.Proofs.YtoimelcdhkmceaaW.PrintLast Go.Proofs.YtoimelcdhkmceaaW.PrintMore
attribute [local go_sem] max2_int min2_int max_two min_two max_three min_three max_four min_four   -- for this text's walks alone
set_option linter.unusedVariables false
set_option linter.unusedSimpArgs false



def errW : Option Int → Value
  | none => .nilIface
  | some c => .iface 0 (.int .i64 c)
theorem errW_none : errW none = .nilIface := rfl
theorem errW_some (c : Int) : errW (some c) = .iface 0 (.int .i64 c) := rfl

-- the values' own types

end Go.Proofs.Ytoimelcdhkmceaa.PH
