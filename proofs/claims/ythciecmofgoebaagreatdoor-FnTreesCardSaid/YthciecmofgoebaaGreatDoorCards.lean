/-
  DERIVED. GIVEN WITH THE SEED: THE CARDS: each row of YthciecmofgoebaaGreatDoorRows.lean that lists a variable, with what it lists TIED to the program's text (the seventh form; the later family's looks); each row that meets fmt, with fmt's text TOLD by the authors' own Lean function (tested against real Go, not proved from fmt's source: count such statements apart). THE CARD IS WHAT COUNTS. Prove the row's statement (the work); the ties are given (YthciecmofgoebaaGreatDoorTie.lean); close each card by the builder's one call (the guide's Derived/Test/ToyasCard.lean, 'card_holds'). Laid BY PROGRAM, IN A SANDBOX (cutbox-door.mjs). By AI agents, Wed Nov 11 2026. No macro, syntax, notation, axiom, sorry.
-/
import Derived.Test.YthciecmofgoebaaGreatDoorRows
import GoSem.ClaimSeven
namespace Go.Proofs.YthciecmofgoebaaGreatDoor
namespace Rows

/-- THE TIED CARD OF 'laws.FnTrees'. -/
def fnTreesCard : Claim7 := { stood := { row := fnTreesRow, standIns := [], harness := (true, "494f73e02525463773802de652f64e80f1923e498623fd383ceba19f956421cb"), looks := true }, kinds := [], alts := [], laidByText := true, laidKinds := [.data, .data, .data, .data, .sentinel, .sentinel, .pinned], laidTests := true, laidLooks := .later }
def FnTreesCardSaid : Prop := Claim7.holds Tryz.pinned (.plain (OpenSpec.ofChange fnTreesSpec)) fnTreesCard

/-- THE SECOND FORM's CARD OF 'laws.FnTrees'. -/
def fnTreesUptoCard : Claim7 := { stood := { row := fnTreesUptoRow, standIns := [], harness := (true, "494f73e02525463773802de652f64e80f1923e498623fd383ceba19f956421cb"), looks := true }, kinds := [], alts := [], laidByText := true, laidKinds := [.data, .data, .data, .data, .sentinel, .sentinel, .pinned], laidTests := true, laidLooks := .later }
def FnTreesUptoCardSaid : Prop := Claim7.holds Tryz.pinned (.plain (OpenSpec.upto fnTreesSpec)) fnTreesUptoCard
end Rows
end Go.Proofs.YthciecmofgoebaaGreatDoor
