/-
  No cell of these rows narrows 'for every input' (looked for: loops, veiled, ifaces, maps, wideKeys, modest, calm, conditions, laid).
  DERIVED. THE GIVEN ROWS OF THIS SEAT. 11 by the template 'for every input the law returns true; each argument reads behind the call as it read before'; 0 by the template 'total and deterministic' (their statements: YtdfjdfhldijjbaaTotals.lean).
  GIVEN WITH THE SEED: the statements are not yours to turn. If you find one false, say at which input.
  Laid BY PROGRAM, IN A SANDBOX (cutbox-rows.mjs): the forced cells as the released guide's own fill.sh prints them over the translation f94e4df402b389c7… (all of the seat's roots in one cut). By AI agents, Wed Nov 11 2026. No macro, syntax, notation, axiom, sorry.
-/
import Derived.Test.YtdfjdfhldijjbaaChecked
import GoSem.Claim
import GoSem.ClaimJoined
import GoSem.ClaimMapViews
import Derived.JoinedTies
import Derived.KernelRfl
namespace Go.Proofs.Ytdfjdfhldijjbaa
/- THE CELL 'sum', in the pinned program and in every row, IS THE sha256 OF THE DUMP (.gsa) THAT YtdfjdfhldijjbaaProg.lean LOADS. Nothing in Lean hashes anything: it is a label: what it is worth is what the hold of that sum in a sandbox is worth. -/
noncomputable def Try.pinned : Pinned := { name := "ytdfjdfhldijjbaa", sum := "f94e4df402b389c784075414b27d6c1dc89a59464d24fd2123406f0a130eaaf1", checked := Try.checked }
namespace Rows
def none {H : Type} : Left H := { results := [], args := [] }

/-- 'laws.FnExactBackOff': WHATEVER THE INPUT: true; the input reads as it did. -/
def fnExactBackOffSpec : ChangeSpec := { name := "fnExactBackOff", fn := fun _ => fun
  | [d1, d2] => { results := [.lit (.bool true)], args := [d1, d2] }
  | _ => none }
def fnExactBackOffRow : OpenClaim := { program := "ytdfjdfhldijjbaa", sum := "f94e4df402b389c784075414b27d6c1dc89a59464d24fd2123406f0a130eaaf1", func := "loop.example/g00840/laws.FnExactBackOff", spec := "fnExactBackOff", apart := false }
def FnExactBackOffSaid : Prop := fnExactBackOffRow.holds Try.pinned (OpenSpec.ofChange fnExactBackOffSpec)

/-- ITS FALSE NEIGHBOUR: 'it returns false'. Refute it at one input. -/
def fnExactBackOffWrong : ChangeSpec := { name := "fnExactBackOff", fn := fun _ => fun
  | [d1, d2] => { results := [.lit (.bool false)], args := [d1, d2] }
  | _ => none }
def FnExactBackOffWrongFalsely : Prop := fnExactBackOffRow.holds Try.pinned (OpenSpec.ofChange fnExactBackOffWrong)

/-- 'laws.FnExactIsValidTimers': WHATEVER THE INPUT: true; the input reads as it did. -/
def fnExactIsValidTimersSpec : ChangeSpec := { name := "fnExactIsValidTimers", fn := fun _ => fun
  | [d] => { results := [.lit (.bool true)], args := [d] }
  | _ => none }
def fnExactIsValidTimersRow : OpenClaim := { program := "ytdfjdfhldijjbaa", sum := "f94e4df402b389c784075414b27d6c1dc89a59464d24fd2123406f0a130eaaf1", func := "loop.example/g00840/laws.FnExactIsValidTimers", spec := "fnExactIsValidTimers", apart := false }
def FnExactIsValidTimersSaid : Prop := fnExactIsValidTimersRow.holds Try.pinned (OpenSpec.ofChange fnExactIsValidTimersSpec)

/-- ITS FALSE NEIGHBOUR: 'it returns false'. Refute it at one input. -/
def fnExactIsValidTimersWrong : ChangeSpec := { name := "fnExactIsValidTimers", fn := fun _ => fun
  | [d] => { results := [.lit (.bool false)], args := [d] }
  | _ => none }
def FnExactIsValidTimersWrongFalsely : Prop := fnExactIsValidTimersRow.holds Try.pinned (OpenSpec.ofChange fnExactIsValidTimersWrong)

/-- 'laws.FnExactTicksUntil': WHATEVER THE INPUT: true; the input reads as it did. -/
def fnExactTicksUntilSpec : ChangeSpec := { name := "fnExactTicksUntil", fn := fun _ => fun
  | [d1, d2, d3] => { results := [.lit (.bool true)], args := [d1, d2, d3] }
  | _ => none }
def fnExactTicksUntilRow : OpenClaim := { program := "ytdfjdfhldijjbaa", sum := "f94e4df402b389c784075414b27d6c1dc89a59464d24fd2123406f0a130eaaf1", func := "loop.example/g00840/laws.FnExactTicksUntil", spec := "fnExactTicksUntil", unfollowed := true, recurses := true, apart := false }
def FnExactTicksUntilSaid : Prop := fnExactTicksUntilRow.holds Try.pinned (OpenSpec.ofChange fnExactTicksUntilSpec)

/-- ITS FALSE NEIGHBOUR: 'it returns false'. Refute it at one input. -/
def fnExactTicksUntilWrong : ChangeSpec := { name := "fnExactTicksUntil", fn := fun _ => fun
  | [d1, d2, d3] => { results := [.lit (.bool false)], args := [d1, d2, d3] }
  | _ => none }
def FnExactTicksUntilWrongFalsely : Prop := fnExactTicksUntilRow.holds Try.pinned (OpenSpec.ofChange fnExactTicksUntilWrong)

/-- 'laws.FnExactStopTimer': WHATEVER THE INPUT: true; the input reads as it did. -/
def fnExactStopTimerSpec : ChangeSpec := { name := "fnExactStopTimer", fn := fun _ => fun
  | [d1, d2] => { results := [.lit (.bool true)], args := [d1, d2] }
  | _ => none }
def fnExactStopTimerRow : OpenClaim := { program := "ytdfjdfhldijjbaa", sum := "f94e4df402b389c784075414b27d6c1dc89a59464d24fd2123406f0a130eaaf1", func := "loop.example/g00840/laws.FnExactStopTimer", spec := "fnExactStopTimer", unfollowed := true, recurses := true, apart := false }
def FnExactStopTimerSaid : Prop := fnExactStopTimerRow.holds Try.pinned (OpenSpec.ofChange fnExactStopTimerSpec)

/-- ITS FALSE NEIGHBOUR: 'it returns false'. Refute it at one input. -/
def fnExactStopTimerWrong : ChangeSpec := { name := "fnExactStopTimer", fn := fun _ => fun
  | [d1, d2] => { results := [.lit (.bool false)], args := [d1, d2] }
  | _ => none }
def FnExactStopTimerWrongFalsely : Prop := fnExactStopTimerRow.holds Try.pinned (OpenSpec.ofChange fnExactStopTimerWrong)

/-- 'laws.FnExactFireTimer': WHATEVER THE INPUT: true; the input reads as it did. -/
def fnExactFireTimerSpec : ChangeSpec := { name := "fnExactFireTimer", fn := fun _ => fun
  | [d1, d2] => { results := [.lit (.bool true)], args := [d1, d2] }
  | _ => none }
def fnExactFireTimerRow : OpenClaim := { program := "ytdfjdfhldijjbaa", sum := "f94e4df402b389c784075414b27d6c1dc89a59464d24fd2123406f0a130eaaf1", func := "loop.example/g00840/laws.FnExactFireTimer", spec := "fnExactFireTimer", unfollowed := true, recurses := true, apart := false }
def FnExactFireTimerSaid : Prop := fnExactFireTimerRow.holds Try.pinned (OpenSpec.ofChange fnExactFireTimerSpec)

/-- ITS FALSE NEIGHBOUR: 'it returns false'. Refute it at one input. -/
def fnExactFireTimerWrong : ChangeSpec := { name := "fnExactFireTimer", fn := fun _ => fun
  | [d1, d2] => { results := [.lit (.bool false)], args := [d1, d2] }
  | _ => none }
def FnExactFireTimerWrongFalsely : Prop := fnExactFireTimerRow.holds Try.pinned (OpenSpec.ofChange fnExactFireTimerWrong)

/-- 'laws.FnExactNextDue': WHATEVER THE INPUT: true; the input reads as it did. -/
def fnExactNextDueSpec : ChangeSpec := { name := "fnExactNextDue", fn := fun _ => fun
  | [d] => { results := [.lit (.bool true)], args := [d] }
  | _ => none }
def fnExactNextDueRow : OpenClaim := { program := "ytdfjdfhldijjbaa", sum := "f94e4df402b389c784075414b27d6c1dc89a59464d24fd2123406f0a130eaaf1", func := "loop.example/g00840/laws.FnExactNextDue", spec := "fnExactNextDue", unfollowed := true, recurses := true, apart := false }
def FnExactNextDueSaid : Prop := fnExactNextDueRow.holds Try.pinned (OpenSpec.ofChange fnExactNextDueSpec)

/-- ITS FALSE NEIGHBOUR: 'it returns false'. Refute it at one input. -/
def fnExactNextDueWrong : ChangeSpec := { name := "fnExactNextDue", fn := fun _ => fun
  | [d] => { results := [.lit (.bool false)], args := [d] }
  | _ => none }
def FnExactNextDueWrongFalsely : Prop := fnExactNextDueRow.holds Try.pinned (OpenSpec.ofChange fnExactNextDueWrong)

/-- 'laws.FnExactSetTimer': WHATEVER THE INPUT: true; the input reads as it did. -/
def fnExactSetTimerSpec : ChangeSpec := { name := "fnExactSetTimer", fn := fun _ => fun
  | [d1, d2] => { results := [.lit (.bool true)], args := [d1, d2] }
  | _ => none }
def fnExactSetTimerRow : OpenClaim := { program := "ytdfjdfhldijjbaa", sum := "f94e4df402b389c784075414b27d6c1dc89a59464d24fd2123406f0a130eaaf1", func := "loop.example/g00840/laws.FnExactSetTimer", spec := "fnExactSetTimer", inPlace := ["slices.overlaps[loop.example/g00840/impl.Timer]"], unfollowed := true, recurses := true, apart := false }
def FnExactSetTimerSaid : Prop := fnExactSetTimerRow.holds Try.pinned (OpenSpec.ofChange fnExactSetTimerSpec)

/-- ITS FALSE NEIGHBOUR: 'it returns false'. Refute it at one input. -/
def fnExactSetTimerWrong : ChangeSpec := { name := "fnExactSetTimer", fn := fun _ => fun
  | [d1, d2] => { results := [.lit (.bool false)], args := [d1, d2] }
  | _ => none }
def FnExactSetTimerWrongFalsely : Prop := fnExactSetTimerRow.holds Try.pinned (OpenSpec.ofChange fnExactSetTimerWrong)

/-- 'laws.FnExactDueTimers': WHATEVER THE INPUT: true; the input reads as it did. -/
def fnExactDueTimersSpec : ChangeSpec := { name := "fnExactDueTimers", fn := fun _ => fun
  | [d1, d2] => { results := [.lit (.bool true)], args := [d1, d2] }
  | _ => none }
def fnExactDueTimersRow : OpenClaim := { program := "ytdfjdfhldijjbaa", sum := "f94e4df402b389c784075414b27d6c1dc89a59464d24fd2123406f0a130eaaf1", func := "loop.example/g00840/laws.FnExactDueTimers", spec := "fnExactDueTimers", unfollowed := true, recurses := true, apart := false }
def FnExactDueTimersSaid : Prop := fnExactDueTimersRow.holds Try.pinned (OpenSpec.ofChange fnExactDueTimersSpec)

/-- ITS FALSE NEIGHBOUR: 'it returns false'. Refute it at one input. -/
def fnExactDueTimersWrong : ChangeSpec := { name := "fnExactDueTimers", fn := fun _ => fun
  | [d1, d2] => { results := [.lit (.bool false)], args := [d1, d2] }
  | _ => none }
def FnExactDueTimersWrongFalsely : Prop := fnExactDueTimersRow.holds Try.pinned (OpenSpec.ofChange fnExactDueTimersWrong)

/-- 'laws.FnExactRunTimers': WHATEVER THE INPUT: true; the input reads as it did. -/
def fnExactRunTimersSpec : ChangeSpec := { name := "fnExactRunTimers", fn := fun _ => fun
  | [d1, d2] => { results := [.lit (.bool true)], args := [d1, d2] }
  | _ => none }
def fnExactRunTimersRow : OpenClaim := { program := "ytdfjdfhldijjbaa", sum := "f94e4df402b389c784075414b27d6c1dc89a59464d24fd2123406f0a130eaaf1", func := "loop.example/g00840/laws.FnExactRunTimers", spec := "fnExactRunTimers", unfollowed := true, recurses := true, apart := false }
def FnExactRunTimersSaid : Prop := fnExactRunTimersRow.holds Try.pinned (OpenSpec.ofChange fnExactRunTimersSpec)

/-- ITS FALSE NEIGHBOUR: 'it returns false'. Refute it at one input. -/
def fnExactRunTimersWrong : ChangeSpec := { name := "fnExactRunTimers", fn := fun _ => fun
  | [d1, d2] => { results := [.lit (.bool false)], args := [d1, d2] }
  | _ => none }
def FnExactRunTimersWrongFalsely : Prop := fnExactRunTimersRow.holds Try.pinned (OpenSpec.ofChange fnExactRunTimersWrong)

/-- 'laws.FnTimerSteps': WHATEVER THE INPUT: true; the input reads as it did. -/
def fnTimerStepsSpec : ChangeSpec := { name := "fnTimerSteps", fn := fun _ => fun
  | [d] => { results := [.lit (.bool true)], args := [d] }
  | _ => none }
def fnTimerStepsRow : OpenClaim := { program := "ytdfjdfhldijjbaa", sum := "f94e4df402b389c784075414b27d6c1dc89a59464d24fd2123406f0a130eaaf1", func := "loop.example/g00840/laws.FnTimerSteps", spec := "fnTimerSteps", inPlace := ["slices.overlaps[loop.example/g00840/impl.Timer]"], unfollowed := true, recurses := true, apart := false }
def FnTimerStepsSaid : Prop := fnTimerStepsRow.holds Try.pinned (OpenSpec.ofChange fnTimerStepsSpec)

/-- ITS FALSE NEIGHBOUR: 'it returns false'. Refute it at one input. -/
def fnTimerStepsWrong : ChangeSpec := { name := "fnTimerSteps", fn := fun _ => fun
  | [d] => { results := [.lit (.bool false)], args := [d] }
  | _ => none }
def FnTimerStepsWrongFalsely : Prop := fnTimerStepsRow.holds Try.pinned (OpenSpec.ofChange fnTimerStepsWrong)

/-- 'laws.FnTimers': WHATEVER THE INPUT: true; the input reads as it did. -/
def fnTimersSpec : ChangeSpec := { name := "fnTimers", fn := fun _ => fun
  | [d] => { results := [.lit (.bool true)], args := [d] }
  | _ => none }
def fnTimersRow : OpenClaim := { program := "ytdfjdfhldijjbaa", sum := "f94e4df402b389c784075414b27d6c1dc89a59464d24fd2123406f0a130eaaf1", func := "loop.example/g00840/laws.FnTimers", spec := "fnTimers", unfollowed := true, recurses := true, apart := false }
def FnTimersSaid : Prop := fnTimersRow.holds Try.pinned (OpenSpec.ofChange fnTimersSpec)

/-- ITS FALSE NEIGHBOUR: 'it returns false'. Refute it at one input. -/
def fnTimersWrong : ChangeSpec := { name := "fnTimers", fn := fun _ => fun
  | [d] => { results := [.lit (.bool false)], args := [d] }
  | _ => none }
def FnTimersWrongFalsely : Prop := fnTimersRow.holds Try.pinned (OpenSpec.ofChange fnTimersWrong)

/- THE SECOND FORM. 'bulk': how many values and letters a reading holds, each counted each time it is reached (what is shared counts as often as it is met; a slice's spare places count too). A statement '..UptoSaid' is the law's where the arguments, and the package variables that the reading takes, are together of bulk at most 1048576: NARROWER than '..Said'. Prove '..Said' where nothing that the law and all that it calls make is longer than what came in: it says more and counts as full. Else prove '..UptoSaid'. A law counts once. -/
mutual
def uptoBulk {H : Type} : DataW H → Nat
  | .lit (.string bytes) => bytes.length + 1
  | .lit _ => 1
  | .nil => 1
  | .ptr d => uptoBulk d + 1
  | .slice elems spare => uptoBulkAll elems + uptoBulkAll spare + 1
  | .agg parts => uptoBulkAll parts + 1
  | .iface _ d => uptoBulk d + 1
  | .map entries => uptoBulkEntries entries + 1
  | .held _ => 1
def uptoBulkAll {H : Type} : List (DataW H) → Nat
  | [] => 0
  | d :: r => uptoBulk d + uptoBulkAll r
def uptoBulkEntries {H : Type} : List (Lit × DataW H) → Nat
  | [] => 0
  | x :: r => uptoBulkEntry x + uptoBulkEntries r
def uptoBulkEntry {H : Type} : Lit × DataW H → Nat
  | (.string bytes, d) => bytes.length + uptoBulk d + 1
  | (_, d) => uptoBulk d + 1
 end
def uptoSmall : (H : Type) → List (DataW H) → Bool := fun _ ds => decide (uptoBulkAll ds ≤ 1048576)
def OpenSpec.upto (s : _root_.Go.ChangeSpec) : _root_.Go.OpenSpec := { _root_.Go.OpenSpec.ofChange s with cond := some uptoSmall }

/-- 'laws.FnExactBackOff', WHERE WHAT IT READS IS OF BULK AT MOST 1048576: true; the input reads as it did. -/
def fnExactBackOffUptoRow : OpenClaim := { program := "ytdfjdfhldijjbaa", sum := "f94e4df402b389c784075414b27d6c1dc89a59464d24fd2123406f0a130eaaf1", func := "loop.example/g00840/laws.FnExactBackOff", spec := "fnExactBackOff", apart := false, narrowed := true }
def FnExactBackOffUptoSaid : Prop := fnExactBackOffUptoRow.holds Try.pinned (OpenSpec.upto fnExactBackOffSpec)

/-- 'laws.FnExactIsValidTimers', WHERE WHAT IT READS IS OF BULK AT MOST 1048576: true; the input reads as it did. -/
def fnExactIsValidTimersUptoRow : OpenClaim := { program := "ytdfjdfhldijjbaa", sum := "f94e4df402b389c784075414b27d6c1dc89a59464d24fd2123406f0a130eaaf1", func := "loop.example/g00840/laws.FnExactIsValidTimers", spec := "fnExactIsValidTimers", apart := false, narrowed := true }
def FnExactIsValidTimersUptoSaid : Prop := fnExactIsValidTimersUptoRow.holds Try.pinned (OpenSpec.upto fnExactIsValidTimersSpec)

/-- 'laws.FnExactTicksUntil', WHERE WHAT IT READS IS OF BULK AT MOST 1048576: true; the input reads as it did. -/
def fnExactTicksUntilUptoRow : OpenClaim := { program := "ytdfjdfhldijjbaa", sum := "f94e4df402b389c784075414b27d6c1dc89a59464d24fd2123406f0a130eaaf1", func := "loop.example/g00840/laws.FnExactTicksUntil", spec := "fnExactTicksUntil", unfollowed := true, recurses := true, apart := false, narrowed := true }
def FnExactTicksUntilUptoSaid : Prop := fnExactTicksUntilUptoRow.holds Try.pinned (OpenSpec.upto fnExactTicksUntilSpec)

/-- 'laws.FnExactStopTimer', WHERE WHAT IT READS IS OF BULK AT MOST 1048576: true; the input reads as it did. -/
def fnExactStopTimerUptoRow : OpenClaim := { program := "ytdfjdfhldijjbaa", sum := "f94e4df402b389c784075414b27d6c1dc89a59464d24fd2123406f0a130eaaf1", func := "loop.example/g00840/laws.FnExactStopTimer", spec := "fnExactStopTimer", unfollowed := true, recurses := true, apart := false, narrowed := true }
def FnExactStopTimerUptoSaid : Prop := fnExactStopTimerUptoRow.holds Try.pinned (OpenSpec.upto fnExactStopTimerSpec)

/-- 'laws.FnExactFireTimer', WHERE WHAT IT READS IS OF BULK AT MOST 1048576: true; the input reads as it did. -/
def fnExactFireTimerUptoRow : OpenClaim := { program := "ytdfjdfhldijjbaa", sum := "f94e4df402b389c784075414b27d6c1dc89a59464d24fd2123406f0a130eaaf1", func := "loop.example/g00840/laws.FnExactFireTimer", spec := "fnExactFireTimer", unfollowed := true, recurses := true, apart := false, narrowed := true }
def FnExactFireTimerUptoSaid : Prop := fnExactFireTimerUptoRow.holds Try.pinned (OpenSpec.upto fnExactFireTimerSpec)

/-- 'laws.FnExactNextDue', WHERE WHAT IT READS IS OF BULK AT MOST 1048576: true; the input reads as it did. -/
def fnExactNextDueUptoRow : OpenClaim := { program := "ytdfjdfhldijjbaa", sum := "f94e4df402b389c784075414b27d6c1dc89a59464d24fd2123406f0a130eaaf1", func := "loop.example/g00840/laws.FnExactNextDue", spec := "fnExactNextDue", unfollowed := true, recurses := true, apart := false, narrowed := true }
def FnExactNextDueUptoSaid : Prop := fnExactNextDueUptoRow.holds Try.pinned (OpenSpec.upto fnExactNextDueSpec)

/-- 'laws.FnExactSetTimer', WHERE WHAT IT READS IS OF BULK AT MOST 1048576: true; the input reads as it did. -/
def fnExactSetTimerUptoRow : OpenClaim := { program := "ytdfjdfhldijjbaa", sum := "f94e4df402b389c784075414b27d6c1dc89a59464d24fd2123406f0a130eaaf1", func := "loop.example/g00840/laws.FnExactSetTimer", spec := "fnExactSetTimer", inPlace := ["slices.overlaps[loop.example/g00840/impl.Timer]"], unfollowed := true, recurses := true, apart := false, narrowed := true }
def FnExactSetTimerUptoSaid : Prop := fnExactSetTimerUptoRow.holds Try.pinned (OpenSpec.upto fnExactSetTimerSpec)

/-- 'laws.FnExactDueTimers', WHERE WHAT IT READS IS OF BULK AT MOST 1048576: true; the input reads as it did. -/
def fnExactDueTimersUptoRow : OpenClaim := { program := "ytdfjdfhldijjbaa", sum := "f94e4df402b389c784075414b27d6c1dc89a59464d24fd2123406f0a130eaaf1", func := "loop.example/g00840/laws.FnExactDueTimers", spec := "fnExactDueTimers", unfollowed := true, recurses := true, apart := false, narrowed := true }
def FnExactDueTimersUptoSaid : Prop := fnExactDueTimersUptoRow.holds Try.pinned (OpenSpec.upto fnExactDueTimersSpec)

/-- 'laws.FnExactRunTimers', WHERE WHAT IT READS IS OF BULK AT MOST 1048576: true; the input reads as it did. -/
def fnExactRunTimersUptoRow : OpenClaim := { program := "ytdfjdfhldijjbaa", sum := "f94e4df402b389c784075414b27d6c1dc89a59464d24fd2123406f0a130eaaf1", func := "loop.example/g00840/laws.FnExactRunTimers", spec := "fnExactRunTimers", unfollowed := true, recurses := true, apart := false, narrowed := true }
def FnExactRunTimersUptoSaid : Prop := fnExactRunTimersUptoRow.holds Try.pinned (OpenSpec.upto fnExactRunTimersSpec)

/-- 'laws.FnTimerSteps', WHERE WHAT IT READS IS OF BULK AT MOST 1048576: true; the input reads as it did. -/
def fnTimerStepsUptoRow : OpenClaim := { program := "ytdfjdfhldijjbaa", sum := "f94e4df402b389c784075414b27d6c1dc89a59464d24fd2123406f0a130eaaf1", func := "loop.example/g00840/laws.FnTimerSteps", spec := "fnTimerSteps", inPlace := ["slices.overlaps[loop.example/g00840/impl.Timer]"], unfollowed := true, recurses := true, apart := false, narrowed := true }
def FnTimerStepsUptoSaid : Prop := fnTimerStepsUptoRow.holds Try.pinned (OpenSpec.upto fnTimerStepsSpec)

/-- 'laws.FnTimers', WHERE WHAT IT READS IS OF BULK AT MOST 1048576: true; the input reads as it did. -/
def fnTimersUptoRow : OpenClaim := { program := "ytdfjdfhldijjbaa", sum := "f94e4df402b389c784075414b27d6c1dc89a59464d24fd2123406f0a130eaaf1", func := "loop.example/g00840/laws.FnTimers", spec := "fnTimers", unfollowed := true, recurses := true, apart := false, narrowed := true }
def FnTimersUptoSaid : Prop := fnTimersUptoRow.holds Try.pinned (OpenSpec.upto fnTimersSpec)

end Rows
end Go.Proofs.Ytdfjdfhldijjbaa
