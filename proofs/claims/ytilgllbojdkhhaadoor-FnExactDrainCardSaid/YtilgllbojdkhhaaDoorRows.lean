/-
  NARROWER THAN 'FOR EVERY INPUT', by the rows' own cells (each row's printed sentence says how): FnExactIsValidLink: laid · FnExactNewLink: laid · FnExactNextFate: laid · FnExactDrain: laid · FnExactCountFates: laid · FnExactIsValidStep: laid.
  DERIVED. THE GIVEN ROWS OF THIS SEAT. 6 by the template 'for every input the law returns true; each argument reads behind the call as it read before'; 0 by the template 'total and deterministic' (their statements: YtilgllbojdkhhaaDoorTotals.lean).
  GIVEN WITH THE SEED: the statements are not yours to turn. If you find one false, say at which input.
  Laid BY PROGRAM, IN A SANDBOX (cutbox-rows.mjs): the forced cells as the released guide's own fill.sh prints them over the translation 03267a9926be87ca… (all of the seat's roots in one cut). By AI agents, Wed Nov 11 2026. No macro, syntax, notation, axiom, sorry.
-/
import Derived.Test.YtilgllbojdkhhaaDoorChecked
import GoSem.PinnedTables
import GoSem.Claim
import GoSem.ClaimJoined
import GoSem.ClaimMapViews
import Derived.JoinedTies
import Derived.KernelRfl
namespace Go.Proofs.YtilgllbojdkhhaaDoor
/- THE CELL 'sum', in the pinned program and in every row, IS THE sha256 OF THE DUMP (.gsa) THAT YtilgllbojdkhhaaDoorProg.lean LOADS. Nothing in Lean hashes anything: it is a label: what it is worth is what the hold of that sum in a sandbox is worth. -/
noncomputable def Tryd.pinned : Pinned := { name := "ytilgllbojdkhhaadoor", sum := "03267a9926be87caa8e754a0d87f90c29eb8c97043d270ad16e8f64dfd5e1e63", checked := Tryd.checked }
namespace Rows
def none {H : Type} : Left H := { results := [], args := [] }

/- WHAT THE LISTED PACKAGE-LEVEL VARIABLES READ AS WHEN THE CALL BEGINS. Each datum BY PROGRAM (the guide's laid-datum.mjs) off the statement by which the dump's own 'gosem.cut.vars' lays the variable. In a bare row this is a premise. The card (YtilgllbojdkhhaaDoorCards.lean) ties it to the program's text. -/
def laid_unicode_utf8_acceptRanges {H : Type} : DataW H := .agg [.agg [.lit (.int .u8 128), .lit (.int .u8 191)], .agg [.lit (.int .u8 160), .lit (.int .u8 191)], .agg [.lit (.int .u8 128), .lit (.int .u8 159)], .agg [.lit (.int .u8 144), .lit (.int .u8 191)], .agg [.lit (.int .u8 128), .lit (.int .u8 143)], .agg [.lit (.int .u8 0), .lit (.int .u8 0)], .agg [.lit (.int .u8 0), .lit (.int .u8 0)], .agg [.lit (.int .u8 0), .lit (.int .u8 0)], .agg [.lit (.int .u8 0), .lit (.int .u8 0)], .agg [.lit (.int .u8 0), .lit (.int .u8 0)], .agg [.lit (.int .u8 0), .lit (.int .u8 0)], .agg [.lit (.int .u8 0), .lit (.int .u8 0)], .agg [.lit (.int .u8 0), .lit (.int .u8 0)], .agg [.lit (.int .u8 0), .lit (.int .u8 0)], .agg [.lit (.int .u8 0), .lit (.int .u8 0)], .agg [.lit (.int .u8 0), .lit (.int .u8 0)]]
/-- One of Go's own tables, pinned by name: the form's constant. -/
def laid_unicode_utf8_first : DataW Unit := Go.Pinned.utf8First

/-- 'laws.FnExactIsValidLink': WHATEVER THE INPUT: true; the input reads as it did. -/
def fnExactIsValidLinkSpec : ChangeSpec := { name := "fnExactIsValidLink", fn := fun _ => fun
  | [d] => { results := [.lit (.bool true)], args := [d] }
  | _ => none }
def fnExactIsValidLinkRow : OpenClaim := { program := "ytilgllbojdkhhaadoor", sum := "03267a9926be87caa8e754a0d87f90c29eb8c97043d270ad16e8f64dfd5e1e63", func := "loop.example/g00840/laws.FnExactIsValidLink", spec := "fnExactIsValidLink", inPlace := ["internal/bytealg.IndexByteString", "internal/bytealg.IndexString"], unfollowed := true, recurses := true, named := ["unicode/utf8.first", "unicode/utf8.acceptRanges", "internal/bytealg.MaxLen"], apart := false, laid := [("unicode/utf8.acceptRanges", laid_unicode_utf8_acceptRanges), ("unicode/utf8.first", laid_unicode_utf8_first)] }
def FnExactIsValidLinkSaid : Prop := fnExactIsValidLinkRow.holds Tryd.pinned (OpenSpec.ofChange fnExactIsValidLinkSpec)

/-- ITS FALSE NEIGHBOUR: 'it returns false'. Refute it at one input. -/
def fnExactIsValidLinkWrong : ChangeSpec := { name := "fnExactIsValidLink", fn := fun _ => fun
  | [d] => { results := [.lit (.bool false)], args := [d] }
  | _ => none }
def FnExactIsValidLinkWrongFalsely : Prop := fnExactIsValidLinkRow.holds Tryd.pinned (OpenSpec.ofChange fnExactIsValidLinkWrong)

/-- 'laws.FnExactNewLink': WHATEVER THE INPUT: true; the input reads as it did. -/
def fnExactNewLinkSpec : ChangeSpec := { name := "fnExactNewLink", fn := fun _ => fun
  | [d] => { results := [.lit (.bool true)], args := [d] }
  | _ => none }
def fnExactNewLinkRow : OpenClaim := { program := "ytilgllbojdkhhaadoor", sum := "03267a9926be87caa8e754a0d87f90c29eb8c97043d270ad16e8f64dfd5e1e63", func := "loop.example/g00840/laws.FnExactNewLink", spec := "fnExactNewLink", inPlace := ["internal/bytealg.IndexByteString", "internal/bytealg.IndexString"], unfollowed := true, recurses := true, named := ["unicode/utf8.first", "unicode/utf8.acceptRanges", "internal/bytealg.MaxLen"], apart := false, laid := [("unicode/utf8.acceptRanges", laid_unicode_utf8_acceptRanges), ("unicode/utf8.first", laid_unicode_utf8_first)] }
def FnExactNewLinkSaid : Prop := fnExactNewLinkRow.holds Tryd.pinned (OpenSpec.ofChange fnExactNewLinkSpec)

/-- ITS FALSE NEIGHBOUR: 'it returns false'. Refute it at one input. -/
def fnExactNewLinkWrong : ChangeSpec := { name := "fnExactNewLink", fn := fun _ => fun
  | [d] => { results := [.lit (.bool false)], args := [d] }
  | _ => none }
def FnExactNewLinkWrongFalsely : Prop := fnExactNewLinkRow.holds Tryd.pinned (OpenSpec.ofChange fnExactNewLinkWrong)

/-- 'laws.FnExactNextFate': WHATEVER THE INPUT: true; the input reads as it did. -/
def fnExactNextFateSpec : ChangeSpec := { name := "fnExactNextFate", fn := fun _ => fun
  | [d] => { results := [.lit (.bool true)], args := [d] }
  | _ => none }
def fnExactNextFateRow : OpenClaim := { program := "ytilgllbojdkhhaadoor", sum := "03267a9926be87caa8e754a0d87f90c29eb8c97043d270ad16e8f64dfd5e1e63", func := "loop.example/g00840/laws.FnExactNextFate", spec := "fnExactNextFate", inPlace := ["internal/bytealg.IndexByteString", "internal/bytealg.IndexString"], unfollowed := true, recurses := true, named := ["unicode/utf8.first", "unicode/utf8.acceptRanges", "internal/bytealg.MaxLen"], apart := false, laid := [("unicode/utf8.acceptRanges", laid_unicode_utf8_acceptRanges), ("unicode/utf8.first", laid_unicode_utf8_first)] }
def FnExactNextFateSaid : Prop := fnExactNextFateRow.holds Tryd.pinned (OpenSpec.ofChange fnExactNextFateSpec)

/-- ITS FALSE NEIGHBOUR: 'it returns false'. Refute it at one input. -/
def fnExactNextFateWrong : ChangeSpec := { name := "fnExactNextFate", fn := fun _ => fun
  | [d] => { results := [.lit (.bool false)], args := [d] }
  | _ => none }
def FnExactNextFateWrongFalsely : Prop := fnExactNextFateRow.holds Tryd.pinned (OpenSpec.ofChange fnExactNextFateWrong)

/-- 'laws.FnExactDrain': WHATEVER THE INPUT: true; the input reads as it did. -/
def fnExactDrainSpec : ChangeSpec := { name := "fnExactDrain", fn := fun _ => fun
  | [d] => { results := [.lit (.bool true)], args := [d] }
  | _ => none }
def fnExactDrainRow : OpenClaim := { program := "ytilgllbojdkhhaadoor", sum := "03267a9926be87caa8e754a0d87f90c29eb8c97043d270ad16e8f64dfd5e1e63", func := "loop.example/g00840/laws.FnExactDrain", spec := "fnExactDrain", inPlace := ["internal/bytealg.IndexByteString", "internal/bytealg.IndexString"], unfollowed := true, recurses := true, named := ["unicode/utf8.first", "unicode/utf8.acceptRanges", "internal/bytealg.MaxLen"], apart := false, laid := [("unicode/utf8.acceptRanges", laid_unicode_utf8_acceptRanges), ("unicode/utf8.first", laid_unicode_utf8_first)] }
def FnExactDrainSaid : Prop := fnExactDrainRow.holds Tryd.pinned (OpenSpec.ofChange fnExactDrainSpec)

/-- ITS FALSE NEIGHBOUR: 'it returns false'. Refute it at one input. -/
def fnExactDrainWrong : ChangeSpec := { name := "fnExactDrain", fn := fun _ => fun
  | [d] => { results := [.lit (.bool false)], args := [d] }
  | _ => none }
def FnExactDrainWrongFalsely : Prop := fnExactDrainRow.holds Tryd.pinned (OpenSpec.ofChange fnExactDrainWrong)

/-- 'laws.FnExactCountFates': WHATEVER THE INPUT: true; the input reads as it did. -/
def fnExactCountFatesSpec : ChangeSpec := { name := "fnExactCountFates", fn := fun _ => fun
  | [d] => { results := [.lit (.bool true)], args := [d] }
  | _ => none }
def fnExactCountFatesRow : OpenClaim := { program := "ytilgllbojdkhhaadoor", sum := "03267a9926be87caa8e754a0d87f90c29eb8c97043d270ad16e8f64dfd5e1e63", func := "loop.example/g00840/laws.FnExactCountFates", spec := "fnExactCountFates", inPlace := ["internal/bytealg.IndexByteString", "internal/bytealg.IndexString", "internal/bytealg.CountString"], unfollowed := true, recurses := true, named := ["unicode/utf8.first", "unicode/utf8.acceptRanges", "internal/bytealg.MaxLen"], apart := false, laid := [("unicode/utf8.acceptRanges", laid_unicode_utf8_acceptRanges), ("unicode/utf8.first", laid_unicode_utf8_first)] }
def FnExactCountFatesSaid : Prop := fnExactCountFatesRow.holds Tryd.pinned (OpenSpec.ofChange fnExactCountFatesSpec)

/-- ITS FALSE NEIGHBOUR: 'it returns false'. Refute it at one input. -/
def fnExactCountFatesWrong : ChangeSpec := { name := "fnExactCountFates", fn := fun _ => fun
  | [d] => { results := [.lit (.bool false)], args := [d] }
  | _ => none }
def FnExactCountFatesWrongFalsely : Prop := fnExactCountFatesRow.holds Tryd.pinned (OpenSpec.ofChange fnExactCountFatesWrong)

/-- 'laws.FnExactIsValidStep': WHATEVER THE INPUT: true; the input reads as it did. -/
def fnExactIsValidStepSpec : ChangeSpec := { name := "fnExactIsValidStep", fn := fun _ => fun
  | [d] => { results := [.lit (.bool true)], args := [d] }
  | _ => none }
def fnExactIsValidStepRow : OpenClaim := { program := "ytilgllbojdkhhaadoor", sum := "03267a9926be87caa8e754a0d87f90c29eb8c97043d270ad16e8f64dfd5e1e63", func := "loop.example/g00840/laws.FnExactIsValidStep", spec := "fnExactIsValidStep", inPlace := ["internal/bytealg.IndexByteString", "internal/bytealg.IndexString"], named := ["unicode/utf8.first", "unicode/utf8.acceptRanges", "internal/bytealg.MaxLen"], apart := false, laid := [("unicode/utf8.acceptRanges", laid_unicode_utf8_acceptRanges), ("unicode/utf8.first", laid_unicode_utf8_first)] }
def FnExactIsValidStepSaid : Prop := fnExactIsValidStepRow.holds Tryd.pinned (OpenSpec.ofChange fnExactIsValidStepSpec)

/-- ITS FALSE NEIGHBOUR: 'it returns false'. Refute it at one input. -/
def fnExactIsValidStepWrong : ChangeSpec := { name := "fnExactIsValidStep", fn := fun _ => fun
  | [d] => { results := [.lit (.bool false)], args := [d] }
  | _ => none }
def FnExactIsValidStepWrongFalsely : Prop := fnExactIsValidStepRow.holds Tryd.pinned (OpenSpec.ofChange fnExactIsValidStepWrong)

/- THE SECOND FORM. 'bulk': how many values and letters a reading holds, each counted each time it is reached (what is shared counts as often as it is met; a slice's spare places count too). A statement '..UptoSaid' is the law's where the arguments, and the package variables that the reading takes, are together of bulk at most 1048576: NARROWER than '..Said'. Prove '..Said' where nothing that the law and all that it calls make is longer than what came in: it says more and counts as full. Else prove '..UptoSaid'. A law counts once. -/
mutual
def uptoBulk {H : Type} : DataW H → Nat
  | .lit (.string bytes) => bytes.length + 1
  | .lit _ => 1
  | .nil => 1
  | .ptr d => uptoBulk d + 1
  | .slice elems spare => uptoBulkAll elems + uptoBulkAll spare + 1
  | .agg parts => uptoBulkAll parts + 1
  | .iface _ d => uptoBulk d + 1
  | .map entries => uptoBulkEntries entries + 1
  | .held _ => 1
def uptoBulkAll {H : Type} : List (DataW H) → Nat
  | [] => 0
  | d :: r => uptoBulk d + uptoBulkAll r
def uptoBulkEntries {H : Type} : List (Lit × DataW H) → Nat
  | [] => 0
  | x :: r => uptoBulkEntry x + uptoBulkEntries r
def uptoBulkEntry {H : Type} : Lit × DataW H → Nat
  | (.string bytes, d) => bytes.length + uptoBulk d + 1
  | (_, d) => uptoBulk d + 1
 end
def uptoSmall : (H : Type) → List (DataW H) → Bool := fun _ ds => decide (uptoBulkAll ds ≤ 1048576)
def OpenSpec.upto (s : _root_.Go.ChangeSpec) : _root_.Go.OpenSpec := { _root_.Go.OpenSpec.ofChange s with cond := some uptoSmall }

/-- 'laws.FnExactIsValidLink', WHERE WHAT IT READS IS OF BULK AT MOST 1048576: true; the input reads as it did. -/
def fnExactIsValidLinkUptoRow : OpenClaim := { program := "ytilgllbojdkhhaadoor", sum := "03267a9926be87caa8e754a0d87f90c29eb8c97043d270ad16e8f64dfd5e1e63", func := "loop.example/g00840/laws.FnExactIsValidLink", spec := "fnExactIsValidLink", inPlace := ["internal/bytealg.IndexByteString", "internal/bytealg.IndexString"], unfollowed := true, recurses := true, named := ["unicode/utf8.first", "unicode/utf8.acceptRanges", "internal/bytealg.MaxLen"], apart := false, laid := [("unicode/utf8.acceptRanges", laid_unicode_utf8_acceptRanges), ("unicode/utf8.first", laid_unicode_utf8_first)], narrowed := true }
def FnExactIsValidLinkUptoSaid : Prop := fnExactIsValidLinkUptoRow.holds Tryd.pinned (OpenSpec.upto fnExactIsValidLinkSpec)

/-- 'laws.FnExactNewLink', WHERE WHAT IT READS IS OF BULK AT MOST 1048576: true; the input reads as it did. -/
def fnExactNewLinkUptoRow : OpenClaim := { program := "ytilgllbojdkhhaadoor", sum := "03267a9926be87caa8e754a0d87f90c29eb8c97043d270ad16e8f64dfd5e1e63", func := "loop.example/g00840/laws.FnExactNewLink", spec := "fnExactNewLink", inPlace := ["internal/bytealg.IndexByteString", "internal/bytealg.IndexString"], unfollowed := true, recurses := true, named := ["unicode/utf8.first", "unicode/utf8.acceptRanges", "internal/bytealg.MaxLen"], apart := false, laid := [("unicode/utf8.acceptRanges", laid_unicode_utf8_acceptRanges), ("unicode/utf8.first", laid_unicode_utf8_first)], narrowed := true }
def FnExactNewLinkUptoSaid : Prop := fnExactNewLinkUptoRow.holds Tryd.pinned (OpenSpec.upto fnExactNewLinkSpec)

/-- 'laws.FnExactNextFate', WHERE WHAT IT READS IS OF BULK AT MOST 1048576: true; the input reads as it did. -/
def fnExactNextFateUptoRow : OpenClaim := { program := "ytilgllbojdkhhaadoor", sum := "03267a9926be87caa8e754a0d87f90c29eb8c97043d270ad16e8f64dfd5e1e63", func := "loop.example/g00840/laws.FnExactNextFate", spec := "fnExactNextFate", inPlace := ["internal/bytealg.IndexByteString", "internal/bytealg.IndexString"], unfollowed := true, recurses := true, named := ["unicode/utf8.first", "unicode/utf8.acceptRanges", "internal/bytealg.MaxLen"], apart := false, laid := [("unicode/utf8.acceptRanges", laid_unicode_utf8_acceptRanges), ("unicode/utf8.first", laid_unicode_utf8_first)], narrowed := true }
def FnExactNextFateUptoSaid : Prop := fnExactNextFateUptoRow.holds Tryd.pinned (OpenSpec.upto fnExactNextFateSpec)

/-- 'laws.FnExactDrain', WHERE WHAT IT READS IS OF BULK AT MOST 1048576: true; the input reads as it did. -/
def fnExactDrainUptoRow : OpenClaim := { program := "ytilgllbojdkhhaadoor", sum := "03267a9926be87caa8e754a0d87f90c29eb8c97043d270ad16e8f64dfd5e1e63", func := "loop.example/g00840/laws.FnExactDrain", spec := "fnExactDrain", inPlace := ["internal/bytealg.IndexByteString", "internal/bytealg.IndexString"], unfollowed := true, recurses := true, named := ["unicode/utf8.first", "unicode/utf8.acceptRanges", "internal/bytealg.MaxLen"], apart := false, laid := [("unicode/utf8.acceptRanges", laid_unicode_utf8_acceptRanges), ("unicode/utf8.first", laid_unicode_utf8_first)], narrowed := true }
def FnExactDrainUptoSaid : Prop := fnExactDrainUptoRow.holds Tryd.pinned (OpenSpec.upto fnExactDrainSpec)

/-- 'laws.FnExactCountFates', WHERE WHAT IT READS IS OF BULK AT MOST 1048576: true; the input reads as it did. -/
def fnExactCountFatesUptoRow : OpenClaim := { program := "ytilgllbojdkhhaadoor", sum := "03267a9926be87caa8e754a0d87f90c29eb8c97043d270ad16e8f64dfd5e1e63", func := "loop.example/g00840/laws.FnExactCountFates", spec := "fnExactCountFates", inPlace := ["internal/bytealg.IndexByteString", "internal/bytealg.IndexString", "internal/bytealg.CountString"], unfollowed := true, recurses := true, named := ["unicode/utf8.first", "unicode/utf8.acceptRanges", "internal/bytealg.MaxLen"], apart := false, laid := [("unicode/utf8.acceptRanges", laid_unicode_utf8_acceptRanges), ("unicode/utf8.first", laid_unicode_utf8_first)], narrowed := true }
def FnExactCountFatesUptoSaid : Prop := fnExactCountFatesUptoRow.holds Tryd.pinned (OpenSpec.upto fnExactCountFatesSpec)

/-- 'laws.FnExactIsValidStep', WHERE WHAT IT READS IS OF BULK AT MOST 1048576: true; the input reads as it did. -/
def fnExactIsValidStepUptoRow : OpenClaim := { program := "ytilgllbojdkhhaadoor", sum := "03267a9926be87caa8e754a0d87f90c29eb8c97043d270ad16e8f64dfd5e1e63", func := "loop.example/g00840/laws.FnExactIsValidStep", spec := "fnExactIsValidStep", inPlace := ["internal/bytealg.IndexByteString", "internal/bytealg.IndexString"], named := ["unicode/utf8.first", "unicode/utf8.acceptRanges", "internal/bytealg.MaxLen"], apart := false, laid := [("unicode/utf8.acceptRanges", laid_unicode_utf8_acceptRanges), ("unicode/utf8.first", laid_unicode_utf8_first)], narrowed := true }
def FnExactIsValidStepUptoSaid : Prop := fnExactIsValidStepUptoRow.holds Tryd.pinned (OpenSpec.upto fnExactIsValidStepSpec)

end Rows
end Go.Proofs.YtilgllbojdkhhaaDoor
