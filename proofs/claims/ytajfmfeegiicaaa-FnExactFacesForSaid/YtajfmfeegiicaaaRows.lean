/-
  No cell of these rows narrows 'for every input' (looked for: loops, veiled, ifaces, maps, wideKeys, modest, calm, conditions, laid).
  DERIVED. THE GIVEN ROWS OF THIS SEAT. 3 by the template 'for every input the law returns true; each argument reads behind the call as it read before'; 0 by the template 'total and deterministic' (their statements: YtajfmfeegiicaaaTotals.lean).
  GIVEN WITH THE SEED: the statements are not yours to turn. If you find one false, say at which input.
  Laid BY PROGRAM, IN A SANDBOX (cutbox-rows.mjs): the forced cells as the released guide's own fill.sh prints them over the translation 417892c3950e56bf… (all of the seat's roots in one cut). By AI agents, Wed Nov 11 2026. No macro, syntax, notation, axiom, sorry.
-/
import Derived.Test.YtajfmfeegiicaaaChecked
import GoSem.Claim
import GoSem.ClaimJoined
import GoSem.ClaimMapViews
import Derived.JoinedTies
import Derived.KernelRfl
namespace Go.Proofs.Ytajfmfeegiicaaa
/- THE CELL 'sum', in the pinned program and in every row, IS THE sha256 OF THE DUMP (.gsa) THAT YtajfmfeegiicaaaProg.lean LOADS. Nothing in Lean hashes anything: it is a label: what it is worth is what the hold of that sum in a sandbox is worth. -/
noncomputable def Try.pinned : Pinned := { name := "ytajfmfeegiicaaa", sum := "417892c3950e56bf356100f6bcf93a26ddf8cb150c902cf2945fbc1aeee33423", checked := Try.checked }
namespace Rows
def none {H : Type} : Left H := { results := [], args := [] }

/-- 'laws.FnExactIsValidElement': WHATEVER THE INPUT: true; the input reads as it did. -/
def fnExactIsValidElementSpec : ChangeSpec := { name := "fnExactIsValidElement", fn := fun _ => fun
  | [d] => { results := [.lit (.bool true)], args := [d] }
  | _ => none }
def fnExactIsValidElementRow : OpenClaim := { program := "ytajfmfeegiicaaa", sum := "417892c3950e56bf356100f6bcf93a26ddf8cb150c902cf2945fbc1aeee33423", func := "loop.example/g00840/laws.FnExactIsValidElement", spec := "fnExactIsValidElement", unfollowed := true, recurses := true, apart := false }
def FnExactIsValidElementSaid : Prop := fnExactIsValidElementRow.holds Try.pinned (OpenSpec.ofChange fnExactIsValidElementSpec)

/-- ITS FALSE NEIGHBOUR: 'it returns false'. Refute it at one input. -/
def fnExactIsValidElementWrong : ChangeSpec := { name := "fnExactIsValidElement", fn := fun _ => fun
  | [d] => { results := [.lit (.bool false)], args := [d] }
  | _ => none }
def FnExactIsValidElementWrongFalsely : Prop := fnExactIsValidElementRow.holds Try.pinned (OpenSpec.ofChange fnExactIsValidElementWrong)

/-- 'laws.FnExactOldestEntry': WHATEVER THE INPUT: true; the input reads as it did. -/
def fnExactOldestEntrySpec : ChangeSpec := { name := "fnExactOldestEntry", fn := fun _ => fun
  | [d] => { results := [.lit (.bool true)], args := [d] }
  | _ => none }
def fnExactOldestEntryRow : OpenClaim := { program := "ytajfmfeegiicaaa", sum := "417892c3950e56bf356100f6bcf93a26ddf8cb150c902cf2945fbc1aeee33423", func := "loop.example/g00840/laws.FnExactOldestEntry", spec := "fnExactOldestEntry", unfollowed := true, recurses := true, apart := false }
def FnExactOldestEntrySaid : Prop := fnExactOldestEntryRow.holds Try.pinned (OpenSpec.ofChange fnExactOldestEntrySpec)

/-- ITS FALSE NEIGHBOUR: 'it returns false'. Refute it at one input. -/
def fnExactOldestEntryWrong : ChangeSpec := { name := "fnExactOldestEntry", fn := fun _ => fun
  | [d] => { results := [.lit (.bool false)], args := [d] }
  | _ => none }
def FnExactOldestEntryWrongFalsely : Prop := fnExactOldestEntryRow.holds Try.pinned (OpenSpec.ofChange fnExactOldestEntryWrong)

/-- 'laws.FnExactFacesFor': WHATEVER THE INPUT: true; the input reads as it did. -/
def fnExactFacesForSpec : ChangeSpec := { name := "fnExactFacesFor", fn := fun _ => fun
  | [d1, d2] => { results := [.lit (.bool true)], args := [d1, d2] }
  | _ => none }
def fnExactFacesForRow : OpenClaim := { program := "ytajfmfeegiicaaa", sum := "417892c3950e56bf356100f6bcf93a26ddf8cb150c902cf2945fbc1aeee33423", func := "loop.example/g00840/laws.FnExactFacesFor", spec := "fnExactFacesFor", unfollowed := true, recurses := true, apart := false }
def FnExactFacesForSaid : Prop := fnExactFacesForRow.holds Try.pinned (OpenSpec.ofChange fnExactFacesForSpec)

/-- ITS FALSE NEIGHBOUR: 'it returns false'. Refute it at one input. -/
def fnExactFacesForWrong : ChangeSpec := { name := "fnExactFacesFor", fn := fun _ => fun
  | [d1, d2] => { results := [.lit (.bool false)], args := [d1, d2] }
  | _ => none }
def FnExactFacesForWrongFalsely : Prop := fnExactFacesForRow.holds Try.pinned (OpenSpec.ofChange fnExactFacesForWrong)

/- THE SECOND FORM. 'bulk': how many values and letters a reading holds, each counted each time it is reached (what is shared counts as often as it is met; a slice's spare places count too). A statement '..UptoSaid' is the law's where the arguments, and the package variables that the reading takes, are together of bulk at most 1048576: NARROWER than '..Said'. Prove '..Said' where nothing that the law and all that it calls make is longer than what came in: it says more and counts as full. Else prove '..UptoSaid'. A law counts once. -/
mutual
def uptoBulk {H : Type} : DataW H → Nat
  | .lit (.string bytes) => bytes.length + 1
  | .lit _ => 1
  | .nil => 1
  | .ptr d => uptoBulk d + 1
  | .slice elems spare => uptoBulkAll elems + uptoBulkAll spare + 1
  | .agg parts => uptoBulkAll parts + 1
  | .iface _ d => uptoBulk d + 1
  | .map entries => uptoBulkEntries entries + 1
  | .held _ => 1
def uptoBulkAll {H : Type} : List (DataW H) → Nat
  | [] => 0
  | d :: r => uptoBulk d + uptoBulkAll r
def uptoBulkEntries {H : Type} : List (Lit × DataW H) → Nat
  | [] => 0
  | x :: r => uptoBulkEntry x + uptoBulkEntries r
def uptoBulkEntry {H : Type} : Lit × DataW H → Nat
  | (.string bytes, d) => bytes.length + uptoBulk d + 1
  | (_, d) => uptoBulk d + 1
 end
def uptoSmall : (H : Type) → List (DataW H) → Bool := fun _ ds => decide (uptoBulkAll ds ≤ 1048576)
def OpenSpec.upto (s : _root_.Go.ChangeSpec) : _root_.Go.OpenSpec := { _root_.Go.OpenSpec.ofChange s with cond := some uptoSmall }

/-- 'laws.FnExactIsValidElement', WHERE WHAT IT READS IS OF BULK AT MOST 1048576: true; the input reads as it did. -/
def fnExactIsValidElementUptoRow : OpenClaim := { program := "ytajfmfeegiicaaa", sum := "417892c3950e56bf356100f6bcf93a26ddf8cb150c902cf2945fbc1aeee33423", func := "loop.example/g00840/laws.FnExactIsValidElement", spec := "fnExactIsValidElement", unfollowed := true, recurses := true, apart := false, narrowed := true }
def FnExactIsValidElementUptoSaid : Prop := fnExactIsValidElementUptoRow.holds Try.pinned (OpenSpec.upto fnExactIsValidElementSpec)

/-- 'laws.FnExactOldestEntry', WHERE WHAT IT READS IS OF BULK AT MOST 1048576: true; the input reads as it did. -/
def fnExactOldestEntryUptoRow : OpenClaim := { program := "ytajfmfeegiicaaa", sum := "417892c3950e56bf356100f6bcf93a26ddf8cb150c902cf2945fbc1aeee33423", func := "loop.example/g00840/laws.FnExactOldestEntry", spec := "fnExactOldestEntry", unfollowed := true, recurses := true, apart := false, narrowed := true }
def FnExactOldestEntryUptoSaid : Prop := fnExactOldestEntryUptoRow.holds Try.pinned (OpenSpec.upto fnExactOldestEntrySpec)

/-- 'laws.FnExactFacesFor', WHERE WHAT IT READS IS OF BULK AT MOST 1048576: true; the input reads as it did. -/
def fnExactFacesForUptoRow : OpenClaim := { program := "ytajfmfeegiicaaa", sum := "417892c3950e56bf356100f6bcf93a26ddf8cb150c902cf2945fbc1aeee33423", func := "loop.example/g00840/laws.FnExactFacesFor", spec := "fnExactFacesFor", unfollowed := true, recurses := true, apart := false, narrowed := true }
def FnExactFacesForUptoSaid : Prop := fnExactFacesForUptoRow.holds Try.pinned (OpenSpec.upto fnExactFacesForSpec)

end Rows
end Go.Proofs.Ytajfmfeegiicaaa
