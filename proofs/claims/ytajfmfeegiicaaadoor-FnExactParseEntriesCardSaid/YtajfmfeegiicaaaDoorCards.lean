/-
  DERIVED. GIVEN WITH THE SEED: THE CARDS: each row of YtajfmfeegiicaaaDoorRows.lean that lists a variable, with what it lists TIED to the program's text (the seventh form; the later family's looks); each row that meets fmt, with fmt's text TOLD by the authors' own Lean function (tested against real Go, not proved from fmt's source: count such statements apart). THE CARD IS WHAT COUNTS. Prove the row's statement (the work); the ties are given (YtajfmfeegiicaaaDoorTie.lean); close each card by the builder's one call (the guide's Derived/Test/ToyasCard.lean, 'card_holds'). Laid BY PROGRAM, IN A SANDBOX (cutbox-door.mjs). By AI agents, Wed Nov 11 2026. No macro, syntax, notation, axiom, sorry.
-/
import Derived.Test.YtajfmfeegiicaaaDoorRows
import GoSem.ClaimSeven
namespace Go.Proofs.YtajfmfeegiicaaaDoor
namespace Rows

/-- THE TIED CARD OF 'laws.FnExactEntriesText'. -/
def fnExactEntriesTextCard : Claim7 := { stood := { row := fnExactEntriesTextRow, standIns := [], harness := (true, "9c3d7b0ac77f6d8cb563c15bc47d625d1255737eb73ccd4d692a5a3b5fde5d89"), looks := true }, kinds := [], alts := [], laidByText := true, laidKinds := [.data, .data, .data], laidTests := true, laidLooks := .later }
def FnExactEntriesTextCardSaid : Prop := Claim7.holds Tryd.pinned (.plain (OpenSpec.ofChange fnExactEntriesTextSpec)) fnExactEntriesTextCard

/-- THE TIED CARD OF 'laws.FnExactParseEntries'. -/
def fnExactParseEntriesCard : Claim7 := { stood := { row := fnExactParseEntriesRow, standIns := [], harness := (true, "9c3d7b0ac77f6d8cb563c15bc47d625d1255737eb73ccd4d692a5a3b5fde5d89"), looks := true }, kinds := [], alts := [], laidByText := true, laidKinds := [.data, .data, .data, .data, .sentinel, .sentinel, .pinned], laidTests := true, laidLooks := .later }
def FnExactParseEntriesCardSaid : Prop := Claim7.holds Tryd.pinned (.plain (OpenSpec.ofChange fnExactParseEntriesSpec)) fnExactParseEntriesCard

/-- THE SECOND FORM's CARD OF 'laws.FnExactEntriesText'. -/
def fnExactEntriesTextUptoCard : Claim7 := { stood := { row := fnExactEntriesTextUptoRow, standIns := [], harness := (true, "9c3d7b0ac77f6d8cb563c15bc47d625d1255737eb73ccd4d692a5a3b5fde5d89"), looks := true }, kinds := [], alts := [], laidByText := true, laidKinds := [.data, .data, .data], laidTests := true, laidLooks := .later }
def FnExactEntriesTextUptoCardSaid : Prop := Claim7.holds Tryd.pinned (.plain (OpenSpec.upto fnExactEntriesTextSpec)) fnExactEntriesTextUptoCard

/-- THE SECOND FORM's CARD OF 'laws.FnExactParseEntries'. -/
def fnExactParseEntriesUptoCard : Claim7 := { stood := { row := fnExactParseEntriesUptoRow, standIns := [], harness := (true, "9c3d7b0ac77f6d8cb563c15bc47d625d1255737eb73ccd4d692a5a3b5fde5d89"), looks := true }, kinds := [], alts := [], laidByText := true, laidKinds := [.data, .data, .data, .data, .sentinel, .sentinel, .pinned], laidTests := true, laidLooks := .later }
def FnExactParseEntriesUptoCardSaid : Prop := Claim7.holds Tryd.pinned (.plain (OpenSpec.upto fnExactParseEntriesSpec)) fnExactParseEntriesUptoCard
end Rows
end Go.Proofs.YtajfmfeegiicaaaDoor
