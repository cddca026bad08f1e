/-
  NARROWER THAN 'FOR EVERY INPUT', by the rows' own cells (each row's printed sentence says how): FnExactIsValidSendWindow: laid · FnExactLeadOf: laid · FnExactHeldItem: laid · FnExactStatusOf: laid · FnExactAnswerTo: laid · FnExactHeldSerials: laid · FnExactIsValidSource: laid · FnExactTicksToStatus: laid · FnExactNewSource: laid · FnExactIsOnHold: laid.
  DERIVED. THE GIVEN ROWS OF THIS SEAT. 10 by the template 'for every input the law returns true; each argument reads behind the call as it read before'; 0 by the template 'total and deterministic' (their statements: YthdmnngmijbcbaaDoorTotals.lean).
  GIVEN WITH THE SEED: the statements are not yours to turn. If you find one false, say at which input.
  Laid BY PROGRAM, IN A SANDBOX (cutbox-rows.mjs): the forced cells as the released guide's own fill.sh prints them over the translation 617929916fe7e39a… (all of the seat's roots in one cut). By AI agents, Wed Nov 11 2026. No macro, syntax, notation, axiom, sorry.
-/
import Derived.Test.YthdmnngmijbcbaaDoorChecked
import GoSem.PinnedTables
import GoSem.Claim
import GoSem.ClaimJoined
import GoSem.ClaimMapViews
import Derived.JoinedTies
import Derived.KernelRfl
namespace Go.Proofs.YthdmnngmijbcbaaDoor
/- THE CELL 'sum', in the pinned program and in every row, IS THE sha256 OF THE DUMP (.gsa) THAT YthdmnngmijbcbaaDoorProg.lean LOADS. Nothing in Lean hashes anything: it is a label: what it is worth is what the hold of that sum in a sandbox is worth. -/
noncomputable def Tryd.pinned : Pinned := { name := "ythdmnngmijbcbaadoor", sum := "617929916fe7e39a9d1bbe66e2b35f26beeef17b731b8e366ae920b18b77b3a8", checked := Tryd.checked }
namespace Rows
def none {H : Type} : Left H := { results := [], args := [] }

/- WHAT THE LISTED PACKAGE-LEVEL VARIABLES READ AS WHEN THE CALL BEGINS. Each datum BY PROGRAM (the guide's laid-datum.mjs) off the statement by which the dump's own 'gosem.cut.vars' lays the variable. In a bare row this is a premise. The card (YthdmnngmijbcbaaDoorCards.lean) ties it to the program's text. -/
def laid_unicode_utf8_acceptRanges {H : Type} : DataW H := .agg [.agg [.lit (.int .u8 128), .lit (.int .u8 191)], .agg [.lit (.int .u8 160), .lit (.int .u8 191)], .agg [.lit (.int .u8 128), .lit (.int .u8 159)], .agg [.lit (.int .u8 144), .lit (.int .u8 191)], .agg [.lit (.int .u8 128), .lit (.int .u8 143)], .agg [.lit (.int .u8 0), .lit (.int .u8 0)], .agg [.lit (.int .u8 0), .lit (.int .u8 0)], .agg [.lit (.int .u8 0), .lit (.int .u8 0)], .agg [.lit (.int .u8 0), .lit (.int .u8 0)], .agg [.lit (.int .u8 0), .lit (.int .u8 0)], .agg [.lit (.int .u8 0), .lit (.int .u8 0)], .agg [.lit (.int .u8 0), .lit (.int .u8 0)], .agg [.lit (.int .u8 0), .lit (.int .u8 0)], .agg [.lit (.int .u8 0), .lit (.int .u8 0)], .agg [.lit (.int .u8 0), .lit (.int .u8 0)], .agg [.lit (.int .u8 0), .lit (.int .u8 0)]]
/-- One of Go's own tables, pinned by name: the form's constant. -/
def laid_unicode_utf8_first : DataW Unit := Go.Pinned.utf8First

/-- 'laws.FnExactIsValidSendWindow': WHATEVER THE INPUT: true; the input reads as it did. -/
def fnExactIsValidSendWindowSpec : ChangeSpec := { name := "fnExactIsValidSendWindow", fn := fun _ => fun
  | [d] => { results := [.lit (.bool true)], args := [d] }
  | _ => none }
def fnExactIsValidSendWindowRow : OpenClaim := { program := "ythdmnngmijbcbaadoor", sum := "617929916fe7e39a9d1bbe66e2b35f26beeef17b731b8e366ae920b18b77b3a8", func := "loop.example/g00840/laws.FnExactIsValidSendWindow", spec := "fnExactIsValidSendWindow", inPlace := ["internal/bytealg.IndexByteString", "internal/bytealg.IndexString"], unfollowed := true, recurses := true, named := ["unicode/utf8.first", "unicode/utf8.acceptRanges", "internal/bytealg.MaxLen"], apart := false, laid := [("unicode/utf8.acceptRanges", laid_unicode_utf8_acceptRanges), ("unicode/utf8.first", laid_unicode_utf8_first)] }
def FnExactIsValidSendWindowSaid : Prop := fnExactIsValidSendWindowRow.holds Tryd.pinned (OpenSpec.ofChange fnExactIsValidSendWindowSpec)

/-- ITS FALSE NEIGHBOUR: 'it returns false'. Refute it at one input. -/
def fnExactIsValidSendWindowWrong : ChangeSpec := { name := "fnExactIsValidSendWindow", fn := fun _ => fun
  | [d] => { results := [.lit (.bool false)], args := [d] }
  | _ => none }
def FnExactIsValidSendWindowWrongFalsely : Prop := fnExactIsValidSendWindowRow.holds Tryd.pinned (OpenSpec.ofChange fnExactIsValidSendWindowWrong)

/-- 'laws.FnExactLeadOf': WHATEVER THE INPUT: true; the input reads as it did. -/
def fnExactLeadOfSpec : ChangeSpec := { name := "fnExactLeadOf", fn := fun _ => fun
  | [d] => { results := [.lit (.bool true)], args := [d] }
  | _ => none }
def fnExactLeadOfRow : OpenClaim := { program := "ythdmnngmijbcbaadoor", sum := "617929916fe7e39a9d1bbe66e2b35f26beeef17b731b8e366ae920b18b77b3a8", func := "loop.example/g00840/laws.FnExactLeadOf", spec := "fnExactLeadOf", inPlace := ["internal/bytealg.IndexByteString", "internal/bytealg.IndexString"], unfollowed := true, recurses := true, named := ["unicode/utf8.first", "unicode/utf8.acceptRanges", "internal/bytealg.MaxLen"], apart := false, laid := [("unicode/utf8.acceptRanges", laid_unicode_utf8_acceptRanges), ("unicode/utf8.first", laid_unicode_utf8_first)] }
def FnExactLeadOfSaid : Prop := fnExactLeadOfRow.holds Tryd.pinned (OpenSpec.ofChange fnExactLeadOfSpec)

/-- ITS FALSE NEIGHBOUR: 'it returns false'. Refute it at one input. -/
def fnExactLeadOfWrong : ChangeSpec := { name := "fnExactLeadOf", fn := fun _ => fun
  | [d] => { results := [.lit (.bool false)], args := [d] }
  | _ => none }
def FnExactLeadOfWrongFalsely : Prop := fnExactLeadOfRow.holds Tryd.pinned (OpenSpec.ofChange fnExactLeadOfWrong)

/-- 'laws.FnExactHeldItem': WHATEVER THE INPUT: true; the input reads as it did. -/
def fnExactHeldItemSpec : ChangeSpec := { name := "fnExactHeldItem", fn := fun _ => fun
  | [d1, d2] => { results := [.lit (.bool true)], args := [d1, d2] }
  | _ => none }
def fnExactHeldItemRow : OpenClaim := { program := "ythdmnngmijbcbaadoor", sum := "617929916fe7e39a9d1bbe66e2b35f26beeef17b731b8e366ae920b18b77b3a8", func := "loop.example/g00840/laws.FnExactHeldItem", spec := "fnExactHeldItem", inPlace := ["internal/bytealg.IndexByteString", "internal/bytealg.IndexString"], unfollowed := true, recurses := true, named := ["unicode/utf8.first", "unicode/utf8.acceptRanges", "internal/bytealg.MaxLen"], apart := false, laid := [("unicode/utf8.acceptRanges", laid_unicode_utf8_acceptRanges), ("unicode/utf8.first", laid_unicode_utf8_first)] }
def FnExactHeldItemSaid : Prop := fnExactHeldItemRow.holds Tryd.pinned (OpenSpec.ofChange fnExactHeldItemSpec)

/-- ITS FALSE NEIGHBOUR: 'it returns false'. Refute it at one input. -/
def fnExactHeldItemWrong : ChangeSpec := { name := "fnExactHeldItem", fn := fun _ => fun
  | [d1, d2] => { results := [.lit (.bool false)], args := [d1, d2] }
  | _ => none }
def FnExactHeldItemWrongFalsely : Prop := fnExactHeldItemRow.holds Tryd.pinned (OpenSpec.ofChange fnExactHeldItemWrong)

/-- 'laws.FnExactStatusOf': WHATEVER THE INPUT: true; the input reads as it did. -/
def fnExactStatusOfSpec : ChangeSpec := { name := "fnExactStatusOf", fn := fun _ => fun
  | [d] => { results := [.lit (.bool true)], args := [d] }
  | _ => none }
def fnExactStatusOfRow : OpenClaim := { program := "ythdmnngmijbcbaadoor", sum := "617929916fe7e39a9d1bbe66e2b35f26beeef17b731b8e366ae920b18b77b3a8", func := "loop.example/g00840/laws.FnExactStatusOf", spec := "fnExactStatusOf", inPlace := ["internal/bytealg.IndexByteString", "internal/bytealg.IndexString"], unfollowed := true, recurses := true, named := ["unicode/utf8.first", "unicode/utf8.acceptRanges", "internal/bytealg.MaxLen"], apart := false, laid := [("unicode/utf8.acceptRanges", laid_unicode_utf8_acceptRanges), ("unicode/utf8.first", laid_unicode_utf8_first)] }
def FnExactStatusOfSaid : Prop := fnExactStatusOfRow.holds Tryd.pinned (OpenSpec.ofChange fnExactStatusOfSpec)

/-- ITS FALSE NEIGHBOUR: 'it returns false'. Refute it at one input. -/
def fnExactStatusOfWrong : ChangeSpec := { name := "fnExactStatusOf", fn := fun _ => fun
  | [d] => { results := [.lit (.bool false)], args := [d] }
  | _ => none }
def FnExactStatusOfWrongFalsely : Prop := fnExactStatusOfRow.holds Tryd.pinned (OpenSpec.ofChange fnExactStatusOfWrong)

/-- 'laws.FnExactAnswerTo': WHATEVER THE INPUT: true; the input reads as it did. -/
def fnExactAnswerToSpec : ChangeSpec := { name := "fnExactAnswerTo", fn := fun _ => fun
  | [d1, d2] => { results := [.lit (.bool true)], args := [d1, d2] }
  | _ => none }
def fnExactAnswerToRow : OpenClaim := { program := "ythdmnngmijbcbaadoor", sum := "617929916fe7e39a9d1bbe66e2b35f26beeef17b731b8e366ae920b18b77b3a8", func := "loop.example/g00840/laws.FnExactAnswerTo", spec := "fnExactAnswerTo", inPlace := ["internal/bytealg.IndexByteString", "internal/bytealg.IndexString"], unfollowed := true, recurses := true, named := ["unicode/utf8.first", "unicode/utf8.acceptRanges", "internal/bytealg.MaxLen"], apart := false, laid := [("unicode/utf8.acceptRanges", laid_unicode_utf8_acceptRanges), ("unicode/utf8.first", laid_unicode_utf8_first)] }
def FnExactAnswerToSaid : Prop := fnExactAnswerToRow.holds Tryd.pinned (OpenSpec.ofChange fnExactAnswerToSpec)

/-- ITS FALSE NEIGHBOUR: 'it returns false'. Refute it at one input. -/
def fnExactAnswerToWrong : ChangeSpec := { name := "fnExactAnswerTo", fn := fun _ => fun
  | [d1, d2] => { results := [.lit (.bool false)], args := [d1, d2] }
  | _ => none }
def FnExactAnswerToWrongFalsely : Prop := fnExactAnswerToRow.holds Tryd.pinned (OpenSpec.ofChange fnExactAnswerToWrong)

/-- 'laws.FnExactHeldSerials': WHATEVER THE INPUT: true; the input reads as it did. -/
def fnExactHeldSerialsSpec : ChangeSpec := { name := "fnExactHeldSerials", fn := fun _ => fun
  | [d] => { results := [.lit (.bool true)], args := [d] }
  | _ => none }
def fnExactHeldSerialsRow : OpenClaim := { program := "ythdmnngmijbcbaadoor", sum := "617929916fe7e39a9d1bbe66e2b35f26beeef17b731b8e366ae920b18b77b3a8", func := "loop.example/g00840/laws.FnExactHeldSerials", spec := "fnExactHeldSerials", inPlace := ["internal/bytealg.IndexByteString", "internal/bytealg.IndexString"], unfollowed := true, recurses := true, named := ["unicode/utf8.first", "unicode/utf8.acceptRanges", "internal/bytealg.MaxLen"], apart := false, laid := [("unicode/utf8.acceptRanges", laid_unicode_utf8_acceptRanges), ("unicode/utf8.first", laid_unicode_utf8_first)] }
def FnExactHeldSerialsSaid : Prop := fnExactHeldSerialsRow.holds Tryd.pinned (OpenSpec.ofChange fnExactHeldSerialsSpec)

/-- ITS FALSE NEIGHBOUR: 'it returns false'. Refute it at one input. -/
def fnExactHeldSerialsWrong : ChangeSpec := { name := "fnExactHeldSerials", fn := fun _ => fun
  | [d] => { results := [.lit (.bool false)], args := [d] }
  | _ => none }
def FnExactHeldSerialsWrongFalsely : Prop := fnExactHeldSerialsRow.holds Tryd.pinned (OpenSpec.ofChange fnExactHeldSerialsWrong)

/-- 'laws.FnExactIsValidSource': WHATEVER THE INPUT: true; the input reads as it did. -/
def fnExactIsValidSourceSpec : ChangeSpec := { name := "fnExactIsValidSource", fn := fun _ => fun
  | [d] => { results := [.lit (.bool true)], args := [d] }
  | _ => none }
def fnExactIsValidSourceRow : OpenClaim := { program := "ythdmnngmijbcbaadoor", sum := "617929916fe7e39a9d1bbe66e2b35f26beeef17b731b8e366ae920b18b77b3a8", func := "loop.example/g00840/laws.FnExactIsValidSource", spec := "fnExactIsValidSource", inPlace := ["internal/bytealg.IndexByteString", "internal/bytealg.IndexString"], unfollowed := true, recurses := true, named := ["unicode/utf8.first", "unicode/utf8.acceptRanges", "internal/bytealg.MaxLen"], apart := false, laid := [("unicode/utf8.acceptRanges", laid_unicode_utf8_acceptRanges), ("unicode/utf8.first", laid_unicode_utf8_first)] }
def FnExactIsValidSourceSaid : Prop := fnExactIsValidSourceRow.holds Tryd.pinned (OpenSpec.ofChange fnExactIsValidSourceSpec)

/-- ITS FALSE NEIGHBOUR: 'it returns false'. Refute it at one input. -/
def fnExactIsValidSourceWrong : ChangeSpec := { name := "fnExactIsValidSource", fn := fun _ => fun
  | [d] => { results := [.lit (.bool false)], args := [d] }
  | _ => none }
def FnExactIsValidSourceWrongFalsely : Prop := fnExactIsValidSourceRow.holds Tryd.pinned (OpenSpec.ofChange fnExactIsValidSourceWrong)

/-- 'laws.FnExactTicksToStatus': WHATEVER THE INPUT: true; the input reads as it did. -/
def fnExactTicksToStatusSpec : ChangeSpec := { name := "fnExactTicksToStatus", fn := fun _ => fun
  | [d] => { results := [.lit (.bool true)], args := [d] }
  | _ => none }
def fnExactTicksToStatusRow : OpenClaim := { program := "ythdmnngmijbcbaadoor", sum := "617929916fe7e39a9d1bbe66e2b35f26beeef17b731b8e366ae920b18b77b3a8", func := "loop.example/g00840/laws.FnExactTicksToStatus", spec := "fnExactTicksToStatus", inPlace := ["internal/bytealg.IndexByteString", "internal/bytealg.IndexString"], unfollowed := true, recurses := true, named := ["unicode/utf8.first", "unicode/utf8.acceptRanges", "internal/bytealg.MaxLen"], apart := false, laid := [("unicode/utf8.acceptRanges", laid_unicode_utf8_acceptRanges), ("unicode/utf8.first", laid_unicode_utf8_first)] }
def FnExactTicksToStatusSaid : Prop := fnExactTicksToStatusRow.holds Tryd.pinned (OpenSpec.ofChange fnExactTicksToStatusSpec)

/-- ITS FALSE NEIGHBOUR: 'it returns false'. Refute it at one input. -/
def fnExactTicksToStatusWrong : ChangeSpec := { name := "fnExactTicksToStatus", fn := fun _ => fun
  | [d] => { results := [.lit (.bool false)], args := [d] }
  | _ => none }
def FnExactTicksToStatusWrongFalsely : Prop := fnExactTicksToStatusRow.holds Tryd.pinned (OpenSpec.ofChange fnExactTicksToStatusWrong)

/-- 'laws.FnExactNewSource': WHATEVER THE INPUT: true; the input reads as it did. -/
def fnExactNewSourceSpec : ChangeSpec := { name := "fnExactNewSource", fn := fun _ => fun
  | [d1, d2] => { results := [.lit (.bool true)], args := [d1, d2] }
  | _ => none }
def fnExactNewSourceRow : OpenClaim := { program := "ythdmnngmijbcbaadoor", sum := "617929916fe7e39a9d1bbe66e2b35f26beeef17b731b8e366ae920b18b77b3a8", func := "loop.example/g00840/laws.FnExactNewSource", spec := "fnExactNewSource", inPlace := ["internal/bytealg.IndexByteString", "internal/bytealg.IndexString"], unfollowed := true, recurses := true, named := ["unicode/utf8.first", "unicode/utf8.acceptRanges", "internal/bytealg.MaxLen"], apart := false, laid := [("unicode/utf8.acceptRanges", laid_unicode_utf8_acceptRanges), ("unicode/utf8.first", laid_unicode_utf8_first)] }
def FnExactNewSourceSaid : Prop := fnExactNewSourceRow.holds Tryd.pinned (OpenSpec.ofChange fnExactNewSourceSpec)

/-- ITS FALSE NEIGHBOUR: 'it returns false'. Refute it at one input. -/
def fnExactNewSourceWrong : ChangeSpec := { name := "fnExactNewSource", fn := fun _ => fun
  | [d1, d2] => { results := [.lit (.bool false)], args := [d1, d2] }
  | _ => none }
def FnExactNewSourceWrongFalsely : Prop := fnExactNewSourceRow.holds Tryd.pinned (OpenSpec.ofChange fnExactNewSourceWrong)

/-- 'laws.FnExactIsOnHold': WHATEVER THE INPUT: true; the input reads as it did. -/
def fnExactIsOnHoldSpec : ChangeSpec := { name := "fnExactIsOnHold", fn := fun _ => fun
  | [d1, d2] => { results := [.lit (.bool true)], args := [d1, d2] }
  | _ => none }
def fnExactIsOnHoldRow : OpenClaim := { program := "ythdmnngmijbcbaadoor", sum := "617929916fe7e39a9d1bbe66e2b35f26beeef17b731b8e366ae920b18b77b3a8", func := "loop.example/g00840/laws.FnExactIsOnHold", spec := "fnExactIsOnHold", inPlace := ["internal/bytealg.IndexByteString", "internal/bytealg.IndexString"], unfollowed := true, recurses := true, named := ["unicode/utf8.first", "unicode/utf8.acceptRanges", "internal/bytealg.MaxLen"], apart := false, laid := [("unicode/utf8.acceptRanges", laid_unicode_utf8_acceptRanges), ("unicode/utf8.first", laid_unicode_utf8_first)] }
def FnExactIsOnHoldSaid : Prop := fnExactIsOnHoldRow.holds Tryd.pinned (OpenSpec.ofChange fnExactIsOnHoldSpec)

/-- ITS FALSE NEIGHBOUR: 'it returns false'. Refute it at one input. -/
def fnExactIsOnHoldWrong : ChangeSpec := { name := "fnExactIsOnHold", fn := fun _ => fun
  | [d1, d2] => { results := [.lit (.bool false)], args := [d1, d2] }
  | _ => none }
def FnExactIsOnHoldWrongFalsely : Prop := fnExactIsOnHoldRow.holds Tryd.pinned (OpenSpec.ofChange fnExactIsOnHoldWrong)

/- THE SECOND FORM. 'bulk': how many values and letters a reading holds, each counted each time it is reached (what is shared counts as often as it is met; a slice's spare places count too). A statement '..UptoSaid' is the law's where the arguments, and the package variables that the reading takes, are together of bulk at most 1048576: NARROWER than '..Said'. Prove '..Said' where nothing that the law and all that it calls make is longer than what came in: it says more and counts as full. Else prove '..UptoSaid'. A law counts once. -/
mutual
def uptoBulk {H : Type} : DataW H → Nat
  | .lit (.string bytes) => bytes.length + 1
  | .lit _ => 1
  | .nil => 1
  | .ptr d => uptoBulk d + 1
  | .slice elems spare => uptoBulkAll elems + uptoBulkAll spare + 1
  | .agg parts => uptoBulkAll parts + 1
  | .iface _ d => uptoBulk d + 1
  | .map entries => uptoBulkEntries entries + 1
  | .held _ => 1
def uptoBulkAll {H : Type} : List (DataW H) → Nat
  | [] => 0
  | d :: r => uptoBulk d + uptoBulkAll r
def uptoBulkEntries {H : Type} : List (Lit × DataW H) → Nat
  | [] => 0
  | x :: r => uptoBulkEntry x + uptoBulkEntries r
def uptoBulkEntry {H : Type} : Lit × DataW H → Nat
  | (.string bytes, d) => bytes.length + uptoBulk d + 1
  | (_, d) => uptoBulk d + 1
 end
def uptoSmall : (H : Type) → List (DataW H) → Bool := fun _ ds => decide (uptoBulkAll ds ≤ 1048576)
def OpenSpec.upto (s : _root_.Go.ChangeSpec) : _root_.Go.OpenSpec := { _root_.Go.OpenSpec.ofChange s with cond := some uptoSmall }

/-- 'laws.FnExactIsValidSendWindow', WHERE WHAT IT READS IS OF BULK AT MOST 1048576: true; the input reads as it did. -/
def fnExactIsValidSendWindowUptoRow : OpenClaim := { program := "ythdmnngmijbcbaadoor", sum := "617929916fe7e39a9d1bbe66e2b35f26beeef17b731b8e366ae920b18b77b3a8", func := "loop.example/g00840/laws.FnExactIsValidSendWindow", spec := "fnExactIsValidSendWindow", inPlace := ["internal/bytealg.IndexByteString", "internal/bytealg.IndexString"], unfollowed := true, recurses := true, named := ["unicode/utf8.first", "unicode/utf8.acceptRanges", "internal/bytealg.MaxLen"], apart := false, laid := [("unicode/utf8.acceptRanges", laid_unicode_utf8_acceptRanges), ("unicode/utf8.first", laid_unicode_utf8_first)], narrowed := true }
def FnExactIsValidSendWindowUptoSaid : Prop := fnExactIsValidSendWindowUptoRow.holds Tryd.pinned (OpenSpec.upto fnExactIsValidSendWindowSpec)

/-- 'laws.FnExactLeadOf', WHERE WHAT IT READS IS OF BULK AT MOST 1048576: true; the input reads as it did. -/
def fnExactLeadOfUptoRow : OpenClaim := { program := "ythdmnngmijbcbaadoor", sum := "617929916fe7e39a9d1bbe66e2b35f26beeef17b731b8e366ae920b18b77b3a8", func := "loop.example/g00840/laws.FnExactLeadOf", spec := "fnExactLeadOf", inPlace := ["internal/bytealg.IndexByteString", "internal/bytealg.IndexString"], unfollowed := true, recurses := true, named := ["unicode/utf8.first", "unicode/utf8.acceptRanges", "internal/bytealg.MaxLen"], apart := false, laid := [("unicode/utf8.acceptRanges", laid_unicode_utf8_acceptRanges), ("unicode/utf8.first", laid_unicode_utf8_first)], narrowed := true }
def FnExactLeadOfUptoSaid : Prop := fnExactLeadOfUptoRow.holds Tryd.pinned (OpenSpec.upto fnExactLeadOfSpec)

/-- 'laws.FnExactHeldItem', WHERE WHAT IT READS IS OF BULK AT MOST 1048576: true; the input reads as it did. -/
def fnExactHeldItemUptoRow : OpenClaim := { program := "ythdmnngmijbcbaadoor", sum := "617929916fe7e39a9d1bbe66e2b35f26beeef17b731b8e366ae920b18b77b3a8", func := "loop.example/g00840/laws.FnExactHeldItem", spec := "fnExactHeldItem", inPlace := ["internal/bytealg.IndexByteString", "internal/bytealg.IndexString"], unfollowed := true, recurses := true, named := ["unicode/utf8.first", "unicode/utf8.acceptRanges", "internal/bytealg.MaxLen"], apart := false, laid := [("unicode/utf8.acceptRanges", laid_unicode_utf8_acceptRanges), ("unicode/utf8.first", laid_unicode_utf8_first)], narrowed := true }
def FnExactHeldItemUptoSaid : Prop := fnExactHeldItemUptoRow.holds Tryd.pinned (OpenSpec.upto fnExactHeldItemSpec)

/-- 'laws.FnExactStatusOf', WHERE WHAT IT READS IS OF BULK AT MOST 1048576: true; the input reads as it did. -/
def fnExactStatusOfUptoRow : OpenClaim := { program := "ythdmnngmijbcbaadoor", sum := "617929916fe7e39a9d1bbe66e2b35f26beeef17b731b8e366ae920b18b77b3a8", func := "loop.example/g00840/laws.FnExactStatusOf", spec := "fnExactStatusOf", inPlace := ["internal/bytealg.IndexByteString", "internal/bytealg.IndexString"], unfollowed := true, recurses := true, named := ["unicode/utf8.first", "unicode/utf8.acceptRanges", "internal/bytealg.MaxLen"], apart := false, laid := [("unicode/utf8.acceptRanges", laid_unicode_utf8_acceptRanges), ("unicode/utf8.first", laid_unicode_utf8_first)], narrowed := true }
def FnExactStatusOfUptoSaid : Prop := fnExactStatusOfUptoRow.holds Tryd.pinned (OpenSpec.upto fnExactStatusOfSpec)

/-- 'laws.FnExactAnswerTo', WHERE WHAT IT READS IS OF BULK AT MOST 1048576: true; the input reads as it did. -/
def fnExactAnswerToUptoRow : OpenClaim := { program := "ythdmnngmijbcbaadoor", sum := "617929916fe7e39a9d1bbe66e2b35f26beeef17b731b8e366ae920b18b77b3a8", func := "loop.example/g00840/laws.FnExactAnswerTo", spec := "fnExactAnswerTo", inPlace := ["internal/bytealg.IndexByteString", "internal/bytealg.IndexString"], unfollowed := true, recurses := true, named := ["unicode/utf8.first", "unicode/utf8.acceptRanges", "internal/bytealg.MaxLen"], apart := false, laid := [("unicode/utf8.acceptRanges", laid_unicode_utf8_acceptRanges), ("unicode/utf8.first", laid_unicode_utf8_first)], narrowed := true }
def FnExactAnswerToUptoSaid : Prop := fnExactAnswerToUptoRow.holds Tryd.pinned (OpenSpec.upto fnExactAnswerToSpec)

/-- 'laws.FnExactHeldSerials', WHERE WHAT IT READS IS OF BULK AT MOST 1048576: true; the input reads as it did. -/
def fnExactHeldSerialsUptoRow : OpenClaim := { program := "ythdmnngmijbcbaadoor", sum := "617929916fe7e39a9d1bbe66e2b35f26beeef17b731b8e366ae920b18b77b3a8", func := "loop.example/g00840/laws.FnExactHeldSerials", spec := "fnExactHeldSerials", inPlace := ["internal/bytealg.IndexByteString", "internal/bytealg.IndexString"], unfollowed := true, recurses := true, named := ["unicode/utf8.first", "unicode/utf8.acceptRanges", "internal/bytealg.MaxLen"], apart := false, laid := [("unicode/utf8.acceptRanges", laid_unicode_utf8_acceptRanges), ("unicode/utf8.first", laid_unicode_utf8_first)], narrowed := true }
def FnExactHeldSerialsUptoSaid : Prop := fnExactHeldSerialsUptoRow.holds Tryd.pinned (OpenSpec.upto fnExactHeldSerialsSpec)

/-- 'laws.FnExactIsValidSource', WHERE WHAT IT READS IS OF BULK AT MOST 1048576: true; the input reads as it did. -/
def fnExactIsValidSourceUptoRow : OpenClaim := { program := "ythdmnngmijbcbaadoor", sum := "617929916fe7e39a9d1bbe66e2b35f26beeef17b731b8e366ae920b18b77b3a8", func := "loop.example/g00840/laws.FnExactIsValidSource", spec := "fnExactIsValidSource", inPlace := ["internal/bytealg.IndexByteString", "internal/bytealg.IndexString"], unfollowed := true, recurses := true, named := ["unicode/utf8.first", "unicode/utf8.acceptRanges", "internal/bytealg.MaxLen"], apart := false, laid := [("unicode/utf8.acceptRanges", laid_unicode_utf8_acceptRanges), ("unicode/utf8.first", laid_unicode_utf8_first)], narrowed := true }
def FnExactIsValidSourceUptoSaid : Prop := fnExactIsValidSourceUptoRow.holds Tryd.pinned (OpenSpec.upto fnExactIsValidSourceSpec)

/-- 'laws.FnExactTicksToStatus', WHERE WHAT IT READS IS OF BULK AT MOST 1048576: true; the input reads as it did. -/
def fnExactTicksToStatusUptoRow : OpenClaim := { program := "ythdmnngmijbcbaadoor", sum := "617929916fe7e39a9d1bbe66e2b35f26beeef17b731b8e366ae920b18b77b3a8", func := "loop.example/g00840/laws.FnExactTicksToStatus", spec := "fnExactTicksToStatus", inPlace := ["internal/bytealg.IndexByteString", "internal/bytealg.IndexString"], unfollowed := true, recurses := true, named := ["unicode/utf8.first", "unicode/utf8.acceptRanges", "internal/bytealg.MaxLen"], apart := false, laid := [("unicode/utf8.acceptRanges", laid_unicode_utf8_acceptRanges), ("unicode/utf8.first", laid_unicode_utf8_first)], narrowed := true }
def FnExactTicksToStatusUptoSaid : Prop := fnExactTicksToStatusUptoRow.holds Tryd.pinned (OpenSpec.upto fnExactTicksToStatusSpec)

/-- 'laws.FnExactNewSource', WHERE WHAT IT READS IS OF BULK AT MOST 1048576: true; the input reads as it did. -/
def fnExactNewSourceUptoRow : OpenClaim := { program := "ythdmnngmijbcbaadoor", sum := "617929916fe7e39a9d1bbe66e2b35f26beeef17b731b8e366ae920b18b77b3a8", func := "loop.example/g00840/laws.FnExactNewSource", spec := "fnExactNewSource", inPlace := ["internal/bytealg.IndexByteString", "internal/bytealg.IndexString"], unfollowed := true, recurses := true, named := ["unicode/utf8.first", "unicode/utf8.acceptRanges", "internal/bytealg.MaxLen"], apart := false, laid := [("unicode/utf8.acceptRanges", laid_unicode_utf8_acceptRanges), ("unicode/utf8.first", laid_unicode_utf8_first)], narrowed := true }
def FnExactNewSourceUptoSaid : Prop := fnExactNewSourceUptoRow.holds Tryd.pinned (OpenSpec.upto fnExactNewSourceSpec)

/-- 'laws.FnExactIsOnHold', WHERE WHAT IT READS IS OF BULK AT MOST 1048576: true; the input reads as it did. -/
def fnExactIsOnHoldUptoRow : OpenClaim := { program := "ythdmnngmijbcbaadoor", sum := "617929916fe7e39a9d1bbe66e2b35f26beeef17b731b8e366ae920b18b77b3a8", func := "loop.example/g00840/laws.FnExactIsOnHold", spec := "fnExactIsOnHold", inPlace := ["internal/bytealg.IndexByteString", "internal/bytealg.IndexString"], unfollowed := true, recurses := true, named := ["unicode/utf8.first", "unicode/utf8.acceptRanges", "internal/bytealg.MaxLen"], apart := false, laid := [("unicode/utf8.acceptRanges", laid_unicode_utf8_acceptRanges), ("unicode/utf8.first", laid_unicode_utf8_first)], narrowed := true }
def FnExactIsOnHoldUptoSaid : Prop := fnExactIsOnHoldUptoRow.holds Tryd.pinned (OpenSpec.upto fnExactIsOnHoldSpec)

end Rows
end Go.Proofs.YthdmnngmijbcbaaDoor
