/-
  NARROWER THAN 'FOR EVERY INPUT', by the rows' own cells (each row's printed sentence says how): MarksIndexes: laid · MarksWords: laid · QuotesMarks: laid · QuotesControl: laid · QuotesTexts: laid · QuotesKeeps: laid · QuotesSpans: laid · QuotesBehind: laid · QuotesTurns: laid · MarksParts: laid · MarksTwice: laid · MarksJoins: laid.
  DERIVED. THE GIVEN ROWS OF THIS SEAT. 12 by the template 'for every input the law returns true; each argument reads behind the call as it read before'; 0 by the template 'total and deterministic' (their statements: YtadcgjmhhodnoaaDoorTotals.lean).
  GIVEN WITH THE SEED: the statements are not yours to turn. If you find one false, say at which input.
  Laid BY PROGRAM, IN A SANDBOX (cutbox-rows.mjs): the forced cells as the released guide's own fill.sh prints them over the translation b2288489cfba77ff… (all of the seat's roots in one cut). By AI agents, Wed Nov 11 2026. No macro, syntax, notation, axiom, sorry.
-/
import Derived.Test.YtadcgjmhhodnoaaDoorChecked
import GoSem.Claim
import GoSem.ClaimJoined
import GoSem.ClaimMapViews
import Derived.JoinedTies
import Derived.KernelRfl
namespace Go.Proofs.YtadcgjmhhodnoaaDoor
/- THE CELL 'sum', in the pinned program and in every row, IS THE sha256 OF THE DUMP (.gsa) THAT YtadcgjmhhodnoaaDoorProg.lean LOADS. Nothing in Lean hashes anything: it is a label: what it is worth is what the hold of that sum in a sandbox is worth. -/
noncomputable def Tryd.pinned : Pinned := { name := "ytadcgjmhhodnoaadoor", sum := "b2288489cfba77ff6ef6f4b0e5b5f34d338e6290e766b10000a76900217df85c", checked := Tryd.checked }
namespace Rows
def none {H : Type} : Left H := { results := [], args := [] }

/- WHAT THE LISTED PACKAGE-LEVEL VARIABLES READ AS WHEN THE CALL BEGINS. Each datum BY PROGRAM (the guide's laid-datum.mjs) off the statement by which the dump's own 'gosem.cut.vars' lays the variable. In a bare row this is a premise. The card (YtadcgjmhhodnoaaDoorCards.lean) ties it to the program's text. -/
def laid_math_bits_deBruijn64tab {H : Type} : DataW H := .agg [.lit (.int .u8 0), .lit (.int .u8 1), .lit (.int .u8 56), .lit (.int .u8 2), .lit (.int .u8 57), .lit (.int .u8 49), .lit (.int .u8 28), .lit (.int .u8 3), .lit (.int .u8 61), .lit (.int .u8 58), .lit (.int .u8 42), .lit (.int .u8 50), .lit (.int .u8 38), .lit (.int .u8 29), .lit (.int .u8 17), .lit (.int .u8 4), .lit (.int .u8 62), .lit (.int .u8 47), .lit (.int .u8 59), .lit (.int .u8 36), .lit (.int .u8 45), .lit (.int .u8 43), .lit (.int .u8 51), .lit (.int .u8 22), .lit (.int .u8 53), .lit (.int .u8 39), .lit (.int .u8 33), .lit (.int .u8 30), .lit (.int .u8 24), .lit (.int .u8 18), .lit (.int .u8 12), .lit (.int .u8 5), .lit (.int .u8 63), .lit (.int .u8 55), .lit (.int .u8 48), .lit (.int .u8 27), .lit (.int .u8 60), .lit (.int .u8 41), .lit (.int .u8 37), .lit (.int .u8 16), .lit (.int .u8 46), .lit (.int .u8 35), .lit (.int .u8 44), .lit (.int .u8 21), .lit (.int .u8 52), .lit (.int .u8 32), .lit (.int .u8 23), .lit (.int .u8 11), .lit (.int .u8 54), .lit (.int .u8 26), .lit (.int .u8 40), .lit (.int .u8 15), .lit (.int .u8 34), .lit (.int .u8 20), .lit (.int .u8 31), .lit (.int .u8 10), .lit (.int .u8 25), .lit (.int .u8 14), .lit (.int .u8 19), .lit (.int .u8 9), .lit (.int .u8 13), .lit (.int .u8 8), .lit (.int .u8 7), .lit (.int .u8 6)]

/-- 'quarrylaw08.MarksIndexes': WHATEVER THE INPUT: true; the input reads as it did. -/
def marksIndexesSpec : ChangeSpec := { name := "marksIndexes", fn := fun _ => fun
  | [d] => { results := [.lit (.bool true)], args := [d] }
  | _ => none }
def marksIndexesRow : OpenClaim := { program := "ytadcgjmhhodnoaadoor", sum := "b2288489cfba77ff6ef6f4b0e5b5f34d338e6290e766b10000a76900217df85c", func := "quarry/quarrylaw08.MarksIndexes", spec := "marksIndexes", unfollowed := true, recurses := true, named := ["math/bits.deBruijn64tab"], apart := false, laid := [("math/bits.deBruijn64tab", laid_math_bits_deBruijn64tab)] }
def MarksIndexesSaid : Prop := marksIndexesRow.holds Tryd.pinned (OpenSpec.ofChange marksIndexesSpec)

/-- ITS FALSE NEIGHBOUR: 'it returns false'. Refute it at one input. -/
def marksIndexesWrong : ChangeSpec := { name := "marksIndexes", fn := fun _ => fun
  | [d] => { results := [.lit (.bool false)], args := [d] }
  | _ => none }
def MarksIndexesWrongFalsely : Prop := marksIndexesRow.holds Tryd.pinned (OpenSpec.ofChange marksIndexesWrong)

/-- 'quarrylaw08.MarksWords': WHATEVER THE INPUT: true; the input reads as it did. -/
def marksWordsSpec : ChangeSpec := { name := "marksWords", fn := fun _ => fun
  | [d1, d2] => { results := [.lit (.bool true)], args := [d1, d2] }
  | _ => none }
def marksWordsRow : OpenClaim := { program := "ytadcgjmhhodnoaadoor", sum := "b2288489cfba77ff6ef6f4b0e5b5f34d338e6290e766b10000a76900217df85c", func := "quarry/quarrylaw08.MarksWords", spec := "marksWords", unfollowed := true, recurses := true, named := ["math/bits.deBruijn64tab"], apart := false, laid := [("math/bits.deBruijn64tab", laid_math_bits_deBruijn64tab)] }
def MarksWordsSaid : Prop := marksWordsRow.holds Tryd.pinned (OpenSpec.ofChange marksWordsSpec)

/-- ITS FALSE NEIGHBOUR: 'it returns false'. Refute it at one input. -/
def marksWordsWrong : ChangeSpec := { name := "marksWords", fn := fun _ => fun
  | [d1, d2] => { results := [.lit (.bool false)], args := [d1, d2] }
  | _ => none }
def MarksWordsWrongFalsely : Prop := marksWordsRow.holds Tryd.pinned (OpenSpec.ofChange marksWordsWrong)

/-- 'quarrylaw07.QuotesMarks': WHATEVER THE INPUT: true; the input reads as it did. -/
def quotesMarksSpec : ChangeSpec := { name := "quotesMarks", fn := fun _ => fun
  | [d] => { results := [.lit (.bool true)], args := [d] }
  | _ => none }
def quotesMarksRow : OpenClaim := { program := "ytadcgjmhhodnoaadoor", sum := "b2288489cfba77ff6ef6f4b0e5b5f34d338e6290e766b10000a76900217df85c", func := "quarry/quarrylaw07.QuotesMarks", spec := "quotesMarks", unfollowed := true, recurses := true, named := ["math/bits.deBruijn64tab"], apart := false, laid := [("math/bits.deBruijn64tab", laid_math_bits_deBruijn64tab)] }
def QuotesMarksSaid : Prop := quotesMarksRow.holds Tryd.pinned (OpenSpec.ofChange quotesMarksSpec)

/-- ITS FALSE NEIGHBOUR: 'it returns false'. Refute it at one input. -/
def quotesMarksWrong : ChangeSpec := { name := "quotesMarks", fn := fun _ => fun
  | [d] => { results := [.lit (.bool false)], args := [d] }
  | _ => none }
def QuotesMarksWrongFalsely : Prop := quotesMarksRow.holds Tryd.pinned (OpenSpec.ofChange quotesMarksWrong)

/-- 'quarrylaw07.QuotesControl': WHATEVER THE INPUT: true; the input reads as it did. -/
def quotesControlSpec : ChangeSpec := { name := "quotesControl", fn := fun _ => fun
  | [d] => { results := [.lit (.bool true)], args := [d] }
  | _ => none }
def quotesControlRow : OpenClaim := { program := "ytadcgjmhhodnoaadoor", sum := "b2288489cfba77ff6ef6f4b0e5b5f34d338e6290e766b10000a76900217df85c", func := "quarry/quarrylaw07.QuotesControl", spec := "quotesControl", unfollowed := true, recurses := true, named := ["math/bits.deBruijn64tab"], apart := false, laid := [("math/bits.deBruijn64tab", laid_math_bits_deBruijn64tab)] }
def QuotesControlSaid : Prop := quotesControlRow.holds Tryd.pinned (OpenSpec.ofChange quotesControlSpec)

/-- ITS FALSE NEIGHBOUR: 'it returns false'. Refute it at one input. -/
def quotesControlWrong : ChangeSpec := { name := "quotesControl", fn := fun _ => fun
  | [d] => { results := [.lit (.bool false)], args := [d] }
  | _ => none }
def QuotesControlWrongFalsely : Prop := quotesControlRow.holds Tryd.pinned (OpenSpec.ofChange quotesControlWrong)

/-- 'quarrylaw07.QuotesTexts': WHATEVER THE INPUT: true; the input reads as it did. -/
def quotesTextsSpec : ChangeSpec := { name := "quotesTexts", fn := fun _ => fun
  | [d1, d2] => { results := [.lit (.bool true)], args := [d1, d2] }
  | _ => none }
def quotesTextsRow : OpenClaim := { program := "ytadcgjmhhodnoaadoor", sum := "b2288489cfba77ff6ef6f4b0e5b5f34d338e6290e766b10000a76900217df85c", func := "quarry/quarrylaw07.QuotesTexts", spec := "quotesTexts", unfollowed := true, recurses := true, named := ["math/bits.deBruijn64tab"], apart := false, laid := [("math/bits.deBruijn64tab", laid_math_bits_deBruijn64tab)] }
def QuotesTextsSaid : Prop := quotesTextsRow.holds Tryd.pinned (OpenSpec.ofChange quotesTextsSpec)

/-- ITS FALSE NEIGHBOUR: 'it returns false'. Refute it at one input. -/
def quotesTextsWrong : ChangeSpec := { name := "quotesTexts", fn := fun _ => fun
  | [d1, d2] => { results := [.lit (.bool false)], args := [d1, d2] }
  | _ => none }
def QuotesTextsWrongFalsely : Prop := quotesTextsRow.holds Tryd.pinned (OpenSpec.ofChange quotesTextsWrong)

/-- 'quarrylaw07.QuotesKeeps': WHATEVER THE INPUT: true; the input reads as it did. -/
def quotesKeepsSpec : ChangeSpec := { name := "quotesKeeps", fn := fun _ => fun
  | [d1, d2] => { results := [.lit (.bool true)], args := [d1, d2] }
  | _ => none }
def quotesKeepsRow : OpenClaim := { program := "ytadcgjmhhodnoaadoor", sum := "b2288489cfba77ff6ef6f4b0e5b5f34d338e6290e766b10000a76900217df85c", func := "quarry/quarrylaw07.QuotesKeeps", spec := "quotesKeeps", unfollowed := true, recurses := true, named := ["math/bits.deBruijn64tab"], apart := false, laid := [("math/bits.deBruijn64tab", laid_math_bits_deBruijn64tab)] }
def QuotesKeepsSaid : Prop := quotesKeepsRow.holds Tryd.pinned (OpenSpec.ofChange quotesKeepsSpec)

/-- ITS FALSE NEIGHBOUR: 'it returns false'. Refute it at one input. -/
def quotesKeepsWrong : ChangeSpec := { name := "quotesKeeps", fn := fun _ => fun
  | [d1, d2] => { results := [.lit (.bool false)], args := [d1, d2] }
  | _ => none }
def QuotesKeepsWrongFalsely : Prop := quotesKeepsRow.holds Tryd.pinned (OpenSpec.ofChange quotesKeepsWrong)

/-- 'quarrylaw07.QuotesSpans': WHATEVER THE INPUT: true; the input reads as it did. -/
def quotesSpansSpec : ChangeSpec := { name := "quotesSpans", fn := fun _ => fun
  | [d] => { results := [.lit (.bool true)], args := [d] }
  | _ => none }
def quotesSpansRow : OpenClaim := { program := "ytadcgjmhhodnoaadoor", sum := "b2288489cfba77ff6ef6f4b0e5b5f34d338e6290e766b10000a76900217df85c", func := "quarry/quarrylaw07.QuotesSpans", spec := "quotesSpans", unfollowed := true, recurses := true, named := ["math/bits.deBruijn64tab"], apart := false, laid := [("math/bits.deBruijn64tab", laid_math_bits_deBruijn64tab)] }
def QuotesSpansSaid : Prop := quotesSpansRow.holds Tryd.pinned (OpenSpec.ofChange quotesSpansSpec)

/-- ITS FALSE NEIGHBOUR: 'it returns false'. Refute it at one input. -/
def quotesSpansWrong : ChangeSpec := { name := "quotesSpans", fn := fun _ => fun
  | [d] => { results := [.lit (.bool false)], args := [d] }
  | _ => none }
def QuotesSpansWrongFalsely : Prop := quotesSpansRow.holds Tryd.pinned (OpenSpec.ofChange quotesSpansWrong)

/-- 'quarrylaw07.QuotesBehind': WHATEVER THE INPUT: true; the input reads as it did. -/
def quotesBehindSpec : ChangeSpec := { name := "quotesBehind", fn := fun _ => fun
  | [d1, d2] => { results := [.lit (.bool true)], args := [d1, d2] }
  | _ => none }
def quotesBehindRow : OpenClaim := { program := "ytadcgjmhhodnoaadoor", sum := "b2288489cfba77ff6ef6f4b0e5b5f34d338e6290e766b10000a76900217df85c", func := "quarry/quarrylaw07.QuotesBehind", spec := "quotesBehind", unfollowed := true, recurses := true, named := ["math/bits.deBruijn64tab"], apart := false, laid := [("math/bits.deBruijn64tab", laid_math_bits_deBruijn64tab)] }
def QuotesBehindSaid : Prop := quotesBehindRow.holds Tryd.pinned (OpenSpec.ofChange quotesBehindSpec)

/-- ITS FALSE NEIGHBOUR: 'it returns false'. Refute it at one input. -/
def quotesBehindWrong : ChangeSpec := { name := "quotesBehind", fn := fun _ => fun
  | [d1, d2] => { results := [.lit (.bool false)], args := [d1, d2] }
  | _ => none }
def QuotesBehindWrongFalsely : Prop := quotesBehindRow.holds Tryd.pinned (OpenSpec.ofChange quotesBehindWrong)

/-- 'quarrylaw07.QuotesTurns': WHATEVER THE INPUT: true; the input reads as it did. -/
def quotesTurnsSpec : ChangeSpec := { name := "quotesTurns", fn := fun _ => fun
  | [d] => { results := [.lit (.bool true)], args := [d] }
  | _ => none }
def quotesTurnsRow : OpenClaim := { program := "ytadcgjmhhodnoaadoor", sum := "b2288489cfba77ff6ef6f4b0e5b5f34d338e6290e766b10000a76900217df85c", func := "quarry/quarrylaw07.QuotesTurns", spec := "quotesTurns", unfollowed := true, recurses := true, named := ["math/bits.deBruijn64tab"], apart := false, laid := [("math/bits.deBruijn64tab", laid_math_bits_deBruijn64tab)] }
def QuotesTurnsSaid : Prop := quotesTurnsRow.holds Tryd.pinned (OpenSpec.ofChange quotesTurnsSpec)

/-- ITS FALSE NEIGHBOUR: 'it returns false'. Refute it at one input. -/
def quotesTurnsWrong : ChangeSpec := { name := "quotesTurns", fn := fun _ => fun
  | [d] => { results := [.lit (.bool false)], args := [d] }
  | _ => none }
def QuotesTurnsWrongFalsely : Prop := quotesTurnsRow.holds Tryd.pinned (OpenSpec.ofChange quotesTurnsWrong)

/-- 'quarrylaw08.MarksParts': WHATEVER THE INPUT: true; the input reads as it did. -/
def marksPartsSpec : ChangeSpec := { name := "marksParts", fn := fun _ => fun
  | [d] => { results := [.lit (.bool true)], args := [d] }
  | _ => none }
def marksPartsRow : OpenClaim := { program := "ytadcgjmhhodnoaadoor", sum := "b2288489cfba77ff6ef6f4b0e5b5f34d338e6290e766b10000a76900217df85c", func := "quarry/quarrylaw08.MarksParts", spec := "marksParts", unfollowed := true, recurses := true, named := ["math/bits.deBruijn64tab"], apart := false, laid := [("math/bits.deBruijn64tab", laid_math_bits_deBruijn64tab)] }
def MarksPartsSaid : Prop := marksPartsRow.holds Tryd.pinned (OpenSpec.ofChange marksPartsSpec)

/-- ITS FALSE NEIGHBOUR: 'it returns false'. Refute it at one input. -/
def marksPartsWrong : ChangeSpec := { name := "marksParts", fn := fun _ => fun
  | [d] => { results := [.lit (.bool false)], args := [d] }
  | _ => none }
def MarksPartsWrongFalsely : Prop := marksPartsRow.holds Tryd.pinned (OpenSpec.ofChange marksPartsWrong)

/-- 'quarrylaw08.MarksTwice': WHATEVER THE INPUT: true; the input reads as it did. -/
def marksTwiceSpec : ChangeSpec := { name := "marksTwice", fn := fun _ => fun
  | [d] => { results := [.lit (.bool true)], args := [d] }
  | _ => none }
def marksTwiceRow : OpenClaim := { program := "ytadcgjmhhodnoaadoor", sum := "b2288489cfba77ff6ef6f4b0e5b5f34d338e6290e766b10000a76900217df85c", func := "quarry/quarrylaw08.MarksTwice", spec := "marksTwice", unfollowed := true, recurses := true, named := ["math/bits.deBruijn64tab"], apart := false, laid := [("math/bits.deBruijn64tab", laid_math_bits_deBruijn64tab)] }
def MarksTwiceSaid : Prop := marksTwiceRow.holds Tryd.pinned (OpenSpec.ofChange marksTwiceSpec)

/-- ITS FALSE NEIGHBOUR: 'it returns false'. Refute it at one input. -/
def marksTwiceWrong : ChangeSpec := { name := "marksTwice", fn := fun _ => fun
  | [d] => { results := [.lit (.bool false)], args := [d] }
  | _ => none }
def MarksTwiceWrongFalsely : Prop := marksTwiceRow.holds Tryd.pinned (OpenSpec.ofChange marksTwiceWrong)

/-- 'quarrylaw08.MarksJoins': WHATEVER THE INPUT: true; the input reads as it did. -/
def marksJoinsSpec : ChangeSpec := { name := "marksJoins", fn := fun _ => fun
  | [d1, d2] => { results := [.lit (.bool true)], args := [d1, d2] }
  | _ => none }
def marksJoinsRow : OpenClaim := { program := "ytadcgjmhhodnoaadoor", sum := "b2288489cfba77ff6ef6f4b0e5b5f34d338e6290e766b10000a76900217df85c", func := "quarry/quarrylaw08.MarksJoins", spec := "marksJoins", unfollowed := true, recurses := true, named := ["math/bits.deBruijn64tab"], apart := false, laid := [("math/bits.deBruijn64tab", laid_math_bits_deBruijn64tab)] }
def MarksJoinsSaid : Prop := marksJoinsRow.holds Tryd.pinned (OpenSpec.ofChange marksJoinsSpec)

/-- ITS FALSE NEIGHBOUR: 'it returns false'. Refute it at one input. -/
def marksJoinsWrong : ChangeSpec := { name := "marksJoins", fn := fun _ => fun
  | [d1, d2] => { results := [.lit (.bool false)], args := [d1, d2] }
  | _ => none }
def MarksJoinsWrongFalsely : Prop := marksJoinsRow.holds Tryd.pinned (OpenSpec.ofChange marksJoinsWrong)

/- THE SECOND FORM. 'bulk': how many values and letters a reading holds, each counted each time it is reached (what is shared counts as often as it is met; a slice's spare places count too). A statement '..UptoSaid' is the law's where the arguments, and the package variables that the reading takes, are together of bulk at most 1048576: NARROWER than '..Said'. Prove '..Said' where nothing that the law and all that it calls make is longer than what came in: it says more and counts as full. Else prove '..UptoSaid'. A law counts once. -/
mutual
def uptoBulk {H : Type} : DataW H → Nat
  | .lit (.string bytes) => bytes.length + 1
  | .lit _ => 1
  | .nil => 1
  | .ptr d => uptoBulk d + 1
  | .slice elems spare => uptoBulkAll elems + uptoBulkAll spare + 1
  | .agg parts => uptoBulkAll parts + 1
  | .iface _ d => uptoBulk d + 1
  | .map entries => uptoBulkEntries entries + 1
  | .held _ => 1
def uptoBulkAll {H : Type} : List (DataW H) → Nat
  | [] => 0
  | d :: r => uptoBulk d + uptoBulkAll r
def uptoBulkEntries {H : Type} : List (Lit × DataW H) → Nat
  | [] => 0
  | x :: r => uptoBulkEntry x + uptoBulkEntries r
def uptoBulkEntry {H : Type} : Lit × DataW H → Nat
  | (.string bytes, d) => bytes.length + uptoBulk d + 1
  | (_, d) => uptoBulk d + 1
 end
def uptoSmall : (H : Type) → List (DataW H) → Bool := fun _ ds => decide (uptoBulkAll ds ≤ 1048576)
def OpenSpec.upto (s : _root_.Go.ChangeSpec) : _root_.Go.OpenSpec := { _root_.Go.OpenSpec.ofChange s with cond := some uptoSmall }

/-- 'quarrylaw08.MarksIndexes', WHERE WHAT IT READS IS OF BULK AT MOST 1048576: true; the input reads as it did. -/
def marksIndexesUptoRow : OpenClaim := { program := "ytadcgjmhhodnoaadoor", sum := "b2288489cfba77ff6ef6f4b0e5b5f34d338e6290e766b10000a76900217df85c", func := "quarry/quarrylaw08.MarksIndexes", spec := "marksIndexes", unfollowed := true, recurses := true, named := ["math/bits.deBruijn64tab"], apart := false, laid := [("math/bits.deBruijn64tab", laid_math_bits_deBruijn64tab)], narrowed := true }
def MarksIndexesUptoSaid : Prop := marksIndexesUptoRow.holds Tryd.pinned (OpenSpec.upto marksIndexesSpec)

/-- 'quarrylaw08.MarksWords', WHERE WHAT IT READS IS OF BULK AT MOST 1048576: true; the input reads as it did. -/
def marksWordsUptoRow : OpenClaim := { program := "ytadcgjmhhodnoaadoor", sum := "b2288489cfba77ff6ef6f4b0e5b5f34d338e6290e766b10000a76900217df85c", func := "quarry/quarrylaw08.MarksWords", spec := "marksWords", unfollowed := true, recurses := true, named := ["math/bits.deBruijn64tab"], apart := false, laid := [("math/bits.deBruijn64tab", laid_math_bits_deBruijn64tab)], narrowed := true }
def MarksWordsUptoSaid : Prop := marksWordsUptoRow.holds Tryd.pinned (OpenSpec.upto marksWordsSpec)

/-- 'quarrylaw07.QuotesMarks', WHERE WHAT IT READS IS OF BULK AT MOST 1048576: true; the input reads as it did. -/
def quotesMarksUptoRow : OpenClaim := { program := "ytadcgjmhhodnoaadoor", sum := "b2288489cfba77ff6ef6f4b0e5b5f34d338e6290e766b10000a76900217df85c", func := "quarry/quarrylaw07.QuotesMarks", spec := "quotesMarks", unfollowed := true, recurses := true, named := ["math/bits.deBruijn64tab"], apart := false, laid := [("math/bits.deBruijn64tab", laid_math_bits_deBruijn64tab)], narrowed := true }
def QuotesMarksUptoSaid : Prop := quotesMarksUptoRow.holds Tryd.pinned (OpenSpec.upto quotesMarksSpec)

/-- 'quarrylaw07.QuotesControl', WHERE WHAT IT READS IS OF BULK AT MOST 1048576: true; the input reads as it did. -/
def quotesControlUptoRow : OpenClaim := { program := "ytadcgjmhhodnoaadoor", sum := "b2288489cfba77ff6ef6f4b0e5b5f34d338e6290e766b10000a76900217df85c", func := "quarry/quarrylaw07.QuotesControl", spec := "quotesControl", unfollowed := true, recurses := true, named := ["math/bits.deBruijn64tab"], apart := false, laid := [("math/bits.deBruijn64tab", laid_math_bits_deBruijn64tab)], narrowed := true }
def QuotesControlUptoSaid : Prop := quotesControlUptoRow.holds Tryd.pinned (OpenSpec.upto quotesControlSpec)

/-- 'quarrylaw07.QuotesTexts', WHERE WHAT IT READS IS OF BULK AT MOST 1048576: true; the input reads as it did. -/
def quotesTextsUptoRow : OpenClaim := { program := "ytadcgjmhhodnoaadoor", sum := "b2288489cfba77ff6ef6f4b0e5b5f34d338e6290e766b10000a76900217df85c", func := "quarry/quarrylaw07.QuotesTexts", spec := "quotesTexts", unfollowed := true, recurses := true, named := ["math/bits.deBruijn64tab"], apart := false, laid := [("math/bits.deBruijn64tab", laid_math_bits_deBruijn64tab)], narrowed := true }
def QuotesTextsUptoSaid : Prop := quotesTextsUptoRow.holds Tryd.pinned (OpenSpec.upto quotesTextsSpec)

/-- 'quarrylaw07.QuotesKeeps', WHERE WHAT IT READS IS OF BULK AT MOST 1048576: true; the input reads as it did. -/
def quotesKeepsUptoRow : OpenClaim := { program := "ytadcgjmhhodnoaadoor", sum := "b2288489cfba77ff6ef6f4b0e5b5f34d338e6290e766b10000a76900217df85c", func := "quarry/quarrylaw07.QuotesKeeps", spec := "quotesKeeps", unfollowed := true, recurses := true, named := ["math/bits.deBruijn64tab"], apart := false, laid := [("math/bits.deBruijn64tab", laid_math_bits_deBruijn64tab)], narrowed := true }
def QuotesKeepsUptoSaid : Prop := quotesKeepsUptoRow.holds Tryd.pinned (OpenSpec.upto quotesKeepsSpec)

/-- 'quarrylaw07.QuotesSpans', WHERE WHAT IT READS IS OF BULK AT MOST 1048576: true; the input reads as it did. -/
def quotesSpansUptoRow : OpenClaim := { program := "ytadcgjmhhodnoaadoor", sum := "b2288489cfba77ff6ef6f4b0e5b5f34d338e6290e766b10000a76900217df85c", func := "quarry/quarrylaw07.QuotesSpans", spec := "quotesSpans", unfollowed := true, recurses := true, named := ["math/bits.deBruijn64tab"], apart := false, laid := [("math/bits.deBruijn64tab", laid_math_bits_deBruijn64tab)], narrowed := true }
def QuotesSpansUptoSaid : Prop := quotesSpansUptoRow.holds Tryd.pinned (OpenSpec.upto quotesSpansSpec)

/-- 'quarrylaw07.QuotesBehind', WHERE WHAT IT READS IS OF BULK AT MOST 1048576: true; the input reads as it did. -/
def quotesBehindUptoRow : OpenClaim := { program := "ytadcgjmhhodnoaadoor", sum := "b2288489cfba77ff6ef6f4b0e5b5f34d338e6290e766b10000a76900217df85c", func := "quarry/quarrylaw07.QuotesBehind", spec := "quotesBehind", unfollowed := true, recurses := true, named := ["math/bits.deBruijn64tab"], apart := false, laid := [("math/bits.deBruijn64tab", laid_math_bits_deBruijn64tab)], narrowed := true }
def QuotesBehindUptoSaid : Prop := quotesBehindUptoRow.holds Tryd.pinned (OpenSpec.upto quotesBehindSpec)

/-- 'quarrylaw07.QuotesTurns', WHERE WHAT IT READS IS OF BULK AT MOST 1048576: true; the input reads as it did. -/
def quotesTurnsUptoRow : OpenClaim := { program := "ytadcgjmhhodnoaadoor", sum := "b2288489cfba77ff6ef6f4b0e5b5f34d338e6290e766b10000a76900217df85c", func := "quarry/quarrylaw07.QuotesTurns", spec := "quotesTurns", unfollowed := true, recurses := true, named := ["math/bits.deBruijn64tab"], apart := false, laid := [("math/bits.deBruijn64tab", laid_math_bits_deBruijn64tab)], narrowed := true }
def QuotesTurnsUptoSaid : Prop := quotesTurnsUptoRow.holds Tryd.pinned (OpenSpec.upto quotesTurnsSpec)

/-- 'quarrylaw08.MarksParts', WHERE WHAT IT READS IS OF BULK AT MOST 1048576: true; the input reads as it did. -/
def marksPartsUptoRow : OpenClaim := { program := "ytadcgjmhhodnoaadoor", sum := "b2288489cfba77ff6ef6f4b0e5b5f34d338e6290e766b10000a76900217df85c", func := "quarry/quarrylaw08.MarksParts", spec := "marksParts", unfollowed := true, recurses := true, named := ["math/bits.deBruijn64tab"], apart := false, laid := [("math/bits.deBruijn64tab", laid_math_bits_deBruijn64tab)], narrowed := true }
def MarksPartsUptoSaid : Prop := marksPartsUptoRow.holds Tryd.pinned (OpenSpec.upto marksPartsSpec)

/-- 'quarrylaw08.MarksTwice', WHERE WHAT IT READS IS OF BULK AT MOST 1048576: true; the input reads as it did. -/
def marksTwiceUptoRow : OpenClaim := { program := "ytadcgjmhhodnoaadoor", sum := "b2288489cfba77ff6ef6f4b0e5b5f34d338e6290e766b10000a76900217df85c", func := "quarry/quarrylaw08.MarksTwice", spec := "marksTwice", unfollowed := true, recurses := true, named := ["math/bits.deBruijn64tab"], apart := false, laid := [("math/bits.deBruijn64tab", laid_math_bits_deBruijn64tab)], narrowed := true }
def MarksTwiceUptoSaid : Prop := marksTwiceUptoRow.holds Tryd.pinned (OpenSpec.upto marksTwiceSpec)

/-- 'quarrylaw08.MarksJoins', WHERE WHAT IT READS IS OF BULK AT MOST 1048576: true; the input reads as it did. -/
def marksJoinsUptoRow : OpenClaim := { program := "ytadcgjmhhodnoaadoor", sum := "b2288489cfba77ff6ef6f4b0e5b5f34d338e6290e766b10000a76900217df85c", func := "quarry/quarrylaw08.MarksJoins", spec := "marksJoins", unfollowed := true, recurses := true, named := ["math/bits.deBruijn64tab"], apart := false, laid := [("math/bits.deBruijn64tab", laid_math_bits_deBruijn64tab)], narrowed := true }
def MarksJoinsUptoSaid : Prop := marksJoinsUptoRow.holds Tryd.pinned (OpenSpec.upto marksJoinsSpec)

end Rows
end Go.Proofs.YtadcgjmhhodnoaaDoor
