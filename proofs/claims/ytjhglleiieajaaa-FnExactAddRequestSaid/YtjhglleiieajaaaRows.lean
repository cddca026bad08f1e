/-
  No cell of these rows narrows 'for every input' (looked for: loops, veiled, ifaces, maps, wideKeys, modest, calm, conditions, laid).
  DERIVED. THE GIVEN ROWS OF THIS SEAT. 11 by the template 'for every input the law returns true; each argument reads behind the call as it read before'; 0 by the template 'total and deterministic' (their statements: YtjhglleiieajaaaTotals.lean).
  GIVEN WITH THE SEED: the statements are not yours to turn. If you find one false, say at which input.
  Laid BY PROGRAM, IN A SANDBOX (cutbox-rows.mjs): the forced cells as the released guide's own fill.sh prints them over the translation f565ab4c8593d94f… (all of the seat's roots in one cut). By AI agents, Wed Nov 11 2026. No macro, syntax, notation, axiom, sorry.
-/
import Derived.Test.YtjhglleiieajaaaChecked
import GoSem.Claim
import GoSem.ClaimJoined
import GoSem.ClaimMapViews
import Derived.JoinedTies
import Derived.KernelRfl
namespace Go.Proofs.Ytjhglleiieajaaa
/- THE CELL 'sum', in the pinned program and in every row, IS THE sha256 OF THE DUMP (.gsa) THAT YtjhglleiieajaaaProg.lean LOADS. Nothing in Lean hashes anything: it is a label: what it is worth is what the hold of that sum in a sandbox is worth. -/
noncomputable def Try.pinned : Pinned := { name := "ytjhglleiieajaaa", sum := "f565ab4c8593d94ff2af4656ea04e35c6f5241eebf631bf4bd77a62671f6924b", checked := Try.checked }
namespace Rows
def none {H : Type} : Left H := { results := [], args := [] }

/-- 'laws.FnExactAreRequests': WHATEVER THE INPUT: true; the input reads as it did. -/
def fnExactAreRequestsSpec : ChangeSpec := { name := "fnExactAreRequests", fn := fun _ => fun
  | [d1, d2] => { results := [.lit (.bool true)], args := [d1, d2] }
  | _ => none }
def fnExactAreRequestsRow : OpenClaim := { program := "ytjhglleiieajaaa", sum := "f565ab4c8593d94ff2af4656ea04e35c6f5241eebf631bf4bd77a62671f6924b", func := "loop.example/g00840/laws.FnExactAreRequests", spec := "fnExactAreRequests", apart := false }
def FnExactAreRequestsSaid : Prop := fnExactAreRequestsRow.holds Try.pinned (OpenSpec.ofChange fnExactAreRequestsSpec)

/-- ITS FALSE NEIGHBOUR: 'it returns false'. Refute it at one input. -/
def fnExactAreRequestsWrong : ChangeSpec := { name := "fnExactAreRequests", fn := fun _ => fun
  | [d1, d2] => { results := [.lit (.bool false)], args := [d1, d2] }
  | _ => none }
def FnExactAreRequestsWrongFalsely : Prop := fnExactAreRequestsRow.holds Try.pinned (OpenSpec.ofChange fnExactAreRequestsWrong)

/-- 'laws.FnExactStateCounts': WHATEVER THE INPUT: true; the input reads as it did. -/
def fnExactStateCountsSpec : ChangeSpec := { name := "fnExactStateCounts", fn := fun _ => fun
  | [d1, d2] => { results := [.lit (.bool true)], args := [d1, d2] }
  | _ => none }
def fnExactStateCountsRow : OpenClaim := { program := "ytjhglleiieajaaa", sum := "f565ab4c8593d94ff2af4656ea04e35c6f5241eebf631bf4bd77a62671f6924b", func := "loop.example/g00840/laws.FnExactStateCounts", spec := "fnExactStateCounts", apart := false }
def FnExactStateCountsSaid : Prop := fnExactStateCountsRow.holds Try.pinned (OpenSpec.ofChange fnExactStateCountsSpec)

/-- ITS FALSE NEIGHBOUR: 'it returns false'. Refute it at one input. -/
def fnExactStateCountsWrong : ChangeSpec := { name := "fnExactStateCounts", fn := fun _ => fun
  | [d1, d2] => { results := [.lit (.bool false)], args := [d1, d2] }
  | _ => none }
def FnExactStateCountsWrongFalsely : Prop := fnExactStateCountsRow.holds Try.pinned (OpenSpec.ofChange fnExactStateCountsWrong)

/-- 'laws.FnExactDueNumbers': WHATEVER THE INPUT: true; the input reads as it did. -/
def fnExactDueNumbersSpec : ChangeSpec := { name := "fnExactDueNumbers", fn := fun _ => fun
  | [d1, d2, d3] => { results := [.lit (.bool true)], args := [d1, d2, d3] }
  | _ => none }
def fnExactDueNumbersRow : OpenClaim := { program := "ytjhglleiieajaaa", sum := "f565ab4c8593d94ff2af4656ea04e35c6f5241eebf631bf4bd77a62671f6924b", func := "loop.example/g00840/laws.FnExactDueNumbers", spec := "fnExactDueNumbers", apart := false }
def FnExactDueNumbersSaid : Prop := fnExactDueNumbersRow.holds Try.pinned (OpenSpec.ofChange fnExactDueNumbersSpec)

/-- ITS FALSE NEIGHBOUR: 'it returns false'. Refute it at one input. -/
def fnExactDueNumbersWrong : ChangeSpec := { name := "fnExactDueNumbers", fn := fun _ => fun
  | [d1, d2, d3] => { results := [.lit (.bool false)], args := [d1, d2, d3] }
  | _ => none }
def FnExactDueNumbersWrongFalsely : Prop := fnExactDueNumbersRow.holds Try.pinned (OpenSpec.ofChange fnExactDueNumbersWrong)

/-- 'laws.FnTicks': WHATEVER THE INPUT: true; the input reads as it did. -/
def fnTicksSpec : ChangeSpec := { name := "fnTicks", fn := fun _ => fun
  | [d] => { results := [.lit (.bool true)], args := [d] }
  | _ => none }
def fnTicksRow : OpenClaim := { program := "ytjhglleiieajaaa", sum := "f565ab4c8593d94ff2af4656ea04e35c6f5241eebf631bf4bd77a62671f6924b", func := "loop.example/g00840/laws.FnTicks", spec := "fnTicks", unfollowed := true, recurses := true, apart := false }
def FnTicksSaid : Prop := fnTicksRow.holds Try.pinned (OpenSpec.ofChange fnTicksSpec)

/-- ITS FALSE NEIGHBOUR: 'it returns false'. Refute it at one input. -/
def fnTicksWrong : ChangeSpec := { name := "fnTicks", fn := fun _ => fun
  | [d] => { results := [.lit (.bool false)], args := [d] }
  | _ => none }
def FnTicksWrongFalsely : Prop := fnTicksRow.holds Try.pinned (OpenSpec.ofChange fnTicksWrong)

/-- 'laws.FnExactDropRequest': WHATEVER THE INPUT: true; the input reads as it did. -/
def fnExactDropRequestSpec : ChangeSpec := { name := "fnExactDropRequest", fn := fun _ => fun
  | [d1, d2, d3] => { results := [.lit (.bool true)], args := [d1, d2, d3] }
  | _ => none }
def fnExactDropRequestRow : OpenClaim := { program := "ytjhglleiieajaaa", sum := "f565ab4c8593d94ff2af4656ea04e35c6f5241eebf631bf4bd77a62671f6924b", func := "loop.example/g00840/laws.FnExactDropRequest", spec := "fnExactDropRequest", unfollowed := true, recurses := true, apart := false }
def FnExactDropRequestSaid : Prop := fnExactDropRequestRow.holds Try.pinned (OpenSpec.ofChange fnExactDropRequestSpec)

/-- ITS FALSE NEIGHBOUR: 'it returns false'. Refute it at one input. -/
def fnExactDropRequestWrong : ChangeSpec := { name := "fnExactDropRequest", fn := fun _ => fun
  | [d1, d2, d3] => { results := [.lit (.bool false)], args := [d1, d2, d3] }
  | _ => none }
def FnExactDropRequestWrongFalsely : Prop := fnExactDropRequestRow.holds Try.pinned (OpenSpec.ofChange fnExactDropRequestWrong)

/-- 'laws.FnExactNewReceiver': WHATEVER THE INPUT: true; the input reads as it did. -/
def fnExactNewReceiverSpec : ChangeSpec := { name := "fnExactNewReceiver", fn := fun _ => fun
  | [d] => { results := [.lit (.bool true)], args := [d] }
  | _ => none }
def fnExactNewReceiverRow : OpenClaim := { program := "ytjhglleiieajaaa", sum := "f565ab4c8593d94ff2af4656ea04e35c6f5241eebf631bf4bd77a62671f6924b", func := "loop.example/g00840/laws.FnExactNewReceiver", spec := "fnExactNewReceiver", apart := false }
def FnExactNewReceiverSaid : Prop := fnExactNewReceiverRow.holds Try.pinned (OpenSpec.ofChange fnExactNewReceiverSpec)

/-- ITS FALSE NEIGHBOUR: 'it returns false'. Refute it at one input. -/
def fnExactNewReceiverWrong : ChangeSpec := { name := "fnExactNewReceiver", fn := fun _ => fun
  | [d] => { results := [.lit (.bool false)], args := [d] }
  | _ => none }
def FnExactNewReceiverWrongFalsely : Prop := fnExactNewReceiverRow.holds Try.pinned (OpenSpec.ofChange fnExactNewReceiverWrong)

/-- 'laws.FnExactConfirmRequest': WHATEVER THE INPUT: true; the input reads as it did. -/
def fnExactConfirmRequestSpec : ChangeSpec := { name := "fnExactConfirmRequest", fn := fun _ => fun
  | [d1, d2, d3, d4] => { results := [.lit (.bool true)], args := [d1, d2, d3, d4] }
  | _ => none }
def fnExactConfirmRequestRow : OpenClaim := { program := "ytjhglleiieajaaa", sum := "f565ab4c8593d94ff2af4656ea04e35c6f5241eebf631bf4bd77a62671f6924b", func := "loop.example/g00840/laws.FnExactConfirmRequest", spec := "fnExactConfirmRequest", unfollowed := true, recurses := true, apart := false }
def FnExactConfirmRequestSaid : Prop := fnExactConfirmRequestRow.holds Try.pinned (OpenSpec.ofChange fnExactConfirmRequestSpec)

/-- ITS FALSE NEIGHBOUR: 'it returns false'. Refute it at one input. -/
def fnExactConfirmRequestWrong : ChangeSpec := { name := "fnExactConfirmRequest", fn := fun _ => fun
  | [d1, d2, d3, d4] => { results := [.lit (.bool false)], args := [d1, d2, d3, d4] }
  | _ => none }
def FnExactConfirmRequestWrongFalsely : Prop := fnExactConfirmRequestRow.holds Try.pinned (OpenSpec.ofChange fnExactConfirmRequestWrong)

/-- 'laws.FnExactMoveBase': WHATEVER THE INPUT: true; the input reads as it did. -/
def fnExactMoveBaseSpec : ChangeSpec := { name := "fnExactMoveBase", fn := fun _ => fun
  | [d1, d2, d3] => { results := [.lit (.bool true)], args := [d1, d2, d3] }
  | _ => none }
def fnExactMoveBaseRow : OpenClaim := { program := "ytjhglleiieajaaa", sum := "f565ab4c8593d94ff2af4656ea04e35c6f5241eebf631bf4bd77a62671f6924b", func := "loop.example/g00840/laws.FnExactMoveBase", spec := "fnExactMoveBase", unfollowed := true, recurses := true, apart := false }
def FnExactMoveBaseSaid : Prop := fnExactMoveBaseRow.holds Try.pinned (OpenSpec.ofChange fnExactMoveBaseSpec)

/-- ITS FALSE NEIGHBOUR: 'it returns false'. Refute it at one input. -/
def fnExactMoveBaseWrong : ChangeSpec := { name := "fnExactMoveBase", fn := fun _ => fun
  | [d1, d2, d3] => { results := [.lit (.bool false)], args := [d1, d2, d3] }
  | _ => none }
def FnExactMoveBaseWrongFalsely : Prop := fnExactMoveBaseRow.holds Try.pinned (OpenSpec.ofChange fnExactMoveBaseWrong)

/-- 'laws.FnExactTickRequests': WHATEVER THE INPUT: true; the input reads as it did. -/
def fnExactTickRequestsSpec : ChangeSpec := { name := "fnExactTickRequests", fn := fun _ => fun
  | [d1, d2, d3, d4] => { results := [.lit (.bool true)], args := [d1, d2, d3, d4] }
  | _ => none }
def fnExactTickRequestsRow : OpenClaim := { program := "ytjhglleiieajaaa", sum := "f565ab4c8593d94ff2af4656ea04e35c6f5241eebf631bf4bd77a62671f6924b", func := "loop.example/g00840/laws.FnExactTickRequests", spec := "fnExactTickRequests", apart := false }
def FnExactTickRequestsSaid : Prop := fnExactTickRequestsRow.holds Try.pinned (OpenSpec.ofChange fnExactTickRequestsSpec)

/-- ITS FALSE NEIGHBOUR: 'it returns false'. Refute it at one input. -/
def fnExactTickRequestsWrong : ChangeSpec := { name := "fnExactTickRequests", fn := fun _ => fun
  | [d1, d2, d3, d4] => { results := [.lit (.bool false)], args := [d1, d2, d3, d4] }
  | _ => none }
def FnExactTickRequestsWrongFalsely : Prop := fnExactTickRequestsRow.holds Try.pinned (OpenSpec.ofChange fnExactTickRequestsWrong)

/-- 'laws.FnExactAddRequest': WHATEVER THE INPUT: true; the input reads as it did. -/
def fnExactAddRequestSpec : ChangeSpec := { name := "fnExactAddRequest", fn := fun _ => fun
  | [d1, d2, d3, d4, d5] => { results := [.lit (.bool true)], args := [d1, d2, d3, d4, d5] }
  | _ => none }
def fnExactAddRequestRow : OpenClaim := { program := "ytjhglleiieajaaa", sum := "f565ab4c8593d94ff2af4656ea04e35c6f5241eebf631bf4bd77a62671f6924b", func := "loop.example/g00840/laws.FnExactAddRequest", spec := "fnExactAddRequest", inPlace := ["slices.overlaps[loop.example/g00840/impl.Request]"], unfollowed := true, recurses := true, apart := false }
def FnExactAddRequestSaid : Prop := fnExactAddRequestRow.holds Try.pinned (OpenSpec.ofChange fnExactAddRequestSpec)

/-- ITS FALSE NEIGHBOUR: 'it returns false'. Refute it at one input. -/
def fnExactAddRequestWrong : ChangeSpec := { name := "fnExactAddRequest", fn := fun _ => fun
  | [d1, d2, d3, d4, d5] => { results := [.lit (.bool false)], args := [d1, d2, d3, d4, d5] }
  | _ => none }
def FnExactAddRequestWrongFalsely : Prop := fnExactAddRequestRow.holds Try.pinned (OpenSpec.ofChange fnExactAddRequestWrong)

/-- 'laws.FnRequests': WHATEVER THE INPUT: true; the input reads as it did. -/
def fnRequestsSpec : ChangeSpec := { name := "fnRequests", fn := fun _ => fun
  | [d] => { results := [.lit (.bool true)], args := [d] }
  | _ => none }
def fnRequestsRow : OpenClaim := { program := "ytjhglleiieajaaa", sum := "f565ab4c8593d94ff2af4656ea04e35c6f5241eebf631bf4bd77a62671f6924b", func := "loop.example/g00840/laws.FnRequests", spec := "fnRequests", inPlace := ["slices.overlaps[loop.example/g00840/impl.Request]"], unfollowed := true, recurses := true, apart := false }
def FnRequestsSaid : Prop := fnRequestsRow.holds Try.pinned (OpenSpec.ofChange fnRequestsSpec)

/-- ITS FALSE NEIGHBOUR: 'it returns false'. Refute it at one input. -/
def fnRequestsWrong : ChangeSpec := { name := "fnRequests", fn := fun _ => fun
  | [d] => { results := [.lit (.bool false)], args := [d] }
  | _ => none }
def FnRequestsWrongFalsely : Prop := fnRequestsRow.holds Try.pinned (OpenSpec.ofChange fnRequestsWrong)

/- THE SECOND FORM. 'bulk': how many values and letters a reading holds, each counted each time it is reached (what is shared counts as often as it is met; a slice's spare places count too). A statement '..UptoSaid' is the law's where the arguments, and the package variables that the reading takes, are together of bulk at most 1048576: NARROWER than '..Said'. Prove '..Said' where nothing that the law and all that it calls make is longer than what came in: it says more and counts as full. Else prove '..UptoSaid'. A law counts once. -/
mutual
def uptoBulk {H : Type} : DataW H → Nat
  | .lit (.string bytes) => bytes.length + 1
  | .lit _ => 1
  | .nil => 1
  | .ptr d => uptoBulk d + 1
  | .slice elems spare => uptoBulkAll elems + uptoBulkAll spare + 1
  | .agg parts => uptoBulkAll parts + 1
  | .iface _ d => uptoBulk d + 1
  | .map entries => uptoBulkEntries entries + 1
  | .held _ => 1
def uptoBulkAll {H : Type} : List (DataW H) → Nat
  | [] => 0
  | d :: r => uptoBulk d + uptoBulkAll r
def uptoBulkEntries {H : Type} : List (Lit × DataW H) → Nat
  | [] => 0
  | x :: r => uptoBulkEntry x + uptoBulkEntries r
def uptoBulkEntry {H : Type} : Lit × DataW H → Nat
  | (.string bytes, d) => bytes.length + uptoBulk d + 1
  | (_, d) => uptoBulk d + 1
 end
def uptoSmall : (H : Type) → List (DataW H) → Bool := fun _ ds => decide (uptoBulkAll ds ≤ 1048576)
def OpenSpec.upto (s : _root_.Go.ChangeSpec) : _root_.Go.OpenSpec := { _root_.Go.OpenSpec.ofChange s with cond := some uptoSmall }

/-- 'laws.FnExactAreRequests', WHERE WHAT IT READS IS OF BULK AT MOST 1048576: true; the input reads as it did. -/
def fnExactAreRequestsUptoRow : OpenClaim := { program := "ytjhglleiieajaaa", sum := "f565ab4c8593d94ff2af4656ea04e35c6f5241eebf631bf4bd77a62671f6924b", func := "loop.example/g00840/laws.FnExactAreRequests", spec := "fnExactAreRequests", apart := false, narrowed := true }
def FnExactAreRequestsUptoSaid : Prop := fnExactAreRequestsUptoRow.holds Try.pinned (OpenSpec.upto fnExactAreRequestsSpec)

/-- 'laws.FnExactStateCounts', WHERE WHAT IT READS IS OF BULK AT MOST 1048576: true; the input reads as it did. -/
def fnExactStateCountsUptoRow : OpenClaim := { program := "ytjhglleiieajaaa", sum := "f565ab4c8593d94ff2af4656ea04e35c6f5241eebf631bf4bd77a62671f6924b", func := "loop.example/g00840/laws.FnExactStateCounts", spec := "fnExactStateCounts", apart := false, narrowed := true }
def FnExactStateCountsUptoSaid : Prop := fnExactStateCountsUptoRow.holds Try.pinned (OpenSpec.upto fnExactStateCountsSpec)

/-- 'laws.FnExactDueNumbers', WHERE WHAT IT READS IS OF BULK AT MOST 1048576: true; the input reads as it did. -/
def fnExactDueNumbersUptoRow : OpenClaim := { program := "ytjhglleiieajaaa", sum := "f565ab4c8593d94ff2af4656ea04e35c6f5241eebf631bf4bd77a62671f6924b", func := "loop.example/g00840/laws.FnExactDueNumbers", spec := "fnExactDueNumbers", apart := false, narrowed := true }
def FnExactDueNumbersUptoSaid : Prop := fnExactDueNumbersUptoRow.holds Try.pinned (OpenSpec.upto fnExactDueNumbersSpec)

/-- 'laws.FnTicks', WHERE WHAT IT READS IS OF BULK AT MOST 1048576: true; the input reads as it did. -/
def fnTicksUptoRow : OpenClaim := { program := "ytjhglleiieajaaa", sum := "f565ab4c8593d94ff2af4656ea04e35c6f5241eebf631bf4bd77a62671f6924b", func := "loop.example/g00840/laws.FnTicks", spec := "fnTicks", unfollowed := true, recurses := true, apart := false, narrowed := true }
def FnTicksUptoSaid : Prop := fnTicksUptoRow.holds Try.pinned (OpenSpec.upto fnTicksSpec)

/-- 'laws.FnExactDropRequest', WHERE WHAT IT READS IS OF BULK AT MOST 1048576: true; the input reads as it did. -/
def fnExactDropRequestUptoRow : OpenClaim := { program := "ytjhglleiieajaaa", sum := "f565ab4c8593d94ff2af4656ea04e35c6f5241eebf631bf4bd77a62671f6924b", func := "loop.example/g00840/laws.FnExactDropRequest", spec := "fnExactDropRequest", unfollowed := true, recurses := true, apart := false, narrowed := true }
def FnExactDropRequestUptoSaid : Prop := fnExactDropRequestUptoRow.holds Try.pinned (OpenSpec.upto fnExactDropRequestSpec)

/-- 'laws.FnExactNewReceiver', WHERE WHAT IT READS IS OF BULK AT MOST 1048576: true; the input reads as it did. -/
def fnExactNewReceiverUptoRow : OpenClaim := { program := "ytjhglleiieajaaa", sum := "f565ab4c8593d94ff2af4656ea04e35c6f5241eebf631bf4bd77a62671f6924b", func := "loop.example/g00840/laws.FnExactNewReceiver", spec := "fnExactNewReceiver", apart := false, narrowed := true }
def FnExactNewReceiverUptoSaid : Prop := fnExactNewReceiverUptoRow.holds Try.pinned (OpenSpec.upto fnExactNewReceiverSpec)

/-- 'laws.FnExactConfirmRequest', WHERE WHAT IT READS IS OF BULK AT MOST 1048576: true; the input reads as it did. -/
def fnExactConfirmRequestUptoRow : OpenClaim := { program := "ytjhglleiieajaaa", sum := "f565ab4c8593d94ff2af4656ea04e35c6f5241eebf631bf4bd77a62671f6924b", func := "loop.example/g00840/laws.FnExactConfirmRequest", spec := "fnExactConfirmRequest", unfollowed := true, recurses := true, apart := false, narrowed := true }
def FnExactConfirmRequestUptoSaid : Prop := fnExactConfirmRequestUptoRow.holds Try.pinned (OpenSpec.upto fnExactConfirmRequestSpec)

/-- 'laws.FnExactMoveBase', WHERE WHAT IT READS IS OF BULK AT MOST 1048576: true; the input reads as it did. -/
def fnExactMoveBaseUptoRow : OpenClaim := { program := "ytjhglleiieajaaa", sum := "f565ab4c8593d94ff2af4656ea04e35c6f5241eebf631bf4bd77a62671f6924b", func := "loop.example/g00840/laws.FnExactMoveBase", spec := "fnExactMoveBase", unfollowed := true, recurses := true, apart := false, narrowed := true }
def FnExactMoveBaseUptoSaid : Prop := fnExactMoveBaseUptoRow.holds Try.pinned (OpenSpec.upto fnExactMoveBaseSpec)

/-- 'laws.FnExactTickRequests', WHERE WHAT IT READS IS OF BULK AT MOST 1048576: true; the input reads as it did. -/
def fnExactTickRequestsUptoRow : OpenClaim := { program := "ytjhglleiieajaaa", sum := "f565ab4c8593d94ff2af4656ea04e35c6f5241eebf631bf4bd77a62671f6924b", func := "loop.example/g00840/laws.FnExactTickRequests", spec := "fnExactTickRequests", apart := false, narrowed := true }
def FnExactTickRequestsUptoSaid : Prop := fnExactTickRequestsUptoRow.holds Try.pinned (OpenSpec.upto fnExactTickRequestsSpec)

/-- 'laws.FnExactAddRequest', WHERE WHAT IT READS IS OF BULK AT MOST 1048576: true; the input reads as it did. -/
def fnExactAddRequestUptoRow : OpenClaim := { program := "ytjhglleiieajaaa", sum := "f565ab4c8593d94ff2af4656ea04e35c6f5241eebf631bf4bd77a62671f6924b", func := "loop.example/g00840/laws.FnExactAddRequest", spec := "fnExactAddRequest", inPlace := ["slices.overlaps[loop.example/g00840/impl.Request]"], unfollowed := true, recurses := true, apart := false, narrowed := true }
def FnExactAddRequestUptoSaid : Prop := fnExactAddRequestUptoRow.holds Try.pinned (OpenSpec.upto fnExactAddRequestSpec)

/-- 'laws.FnRequests', WHERE WHAT IT READS IS OF BULK AT MOST 1048576: true; the input reads as it did. -/
def fnRequestsUptoRow : OpenClaim := { program := "ytjhglleiieajaaa", sum := "f565ab4c8593d94ff2af4656ea04e35c6f5241eebf631bf4bd77a62671f6924b", func := "loop.example/g00840/laws.FnRequests", spec := "fnRequests", inPlace := ["slices.overlaps[loop.example/g00840/impl.Request]"], unfollowed := true, recurses := true, apart := false, narrowed := true }
def FnRequestsUptoSaid : Prop := fnRequestsUptoRow.holds Try.pinned (OpenSpec.upto fnRequestsSpec)

end Rows
end Go.Proofs.Ytjhglleiieajaaa
