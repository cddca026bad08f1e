/-
  DERIVED. GIVEN WITH THE SEED: THE CARDS: each row of YtpjljbhodnlhmaaGreatDoorRows.lean that lists a variable, with what it lists TIED to the program's text (the seventh form; the later family's looks); each row that meets fmt, with fmt's text TOLD by the authors' own Lean function (tested against real Go, not proved from fmt's source: count such statements apart). THE CARD IS WHAT COUNTS. Prove the row's statement (the work); the ties are given (YtpjljbhodnlhmaaGreatDoorTie.lean); close each card by the builder's one call (the guide's Derived/Test/ToyasCard.lean, 'card_holds'). Laid BY PROGRAM, IN A SANDBOX (cutbox-door.mjs). By AI agents, Wed Nov 11 2026. No macro, syntax, notation, axiom, sorry.
-/
import Derived.Test.YtpjljbhodnlhmaaGreatDoorRows
import GoSem.ClaimSeven
namespace Go.Proofs.YtpjljbhodnlhmaaGreatDoor
namespace Rows

/-- THE TIED CARD OF 'laws.FnExactNewNet'. -/
def fnExactNewNetCard : Claim7 := { stood := { row := fnExactNewNetRow, standIns := [], harness := (true, "4f2e398a48aa528b17cc1c4d96015f972a0d98632de52efe797a3530a18ac49d"), looks := false }, kinds := [], alts := [], laidByText := true, laidKinds := [.data, .pinned], laidTests := true, laidLooks := .later }
def FnExactNewNetCardSaid : Prop := Claim7.holds Tryz.pinned (.plain (OpenSpec.ofChange fnExactNewNetSpec)) fnExactNewNetCard

/-- THE TIED CARD OF 'laws.FnExactIsValidNet'. -/
def fnExactIsValidNetCard : Claim7 := { stood := { row := fnExactIsValidNetRow, standIns := [], harness := (true, "4f2e398a48aa528b17cc1c4d96015f972a0d98632de52efe797a3530a18ac49d"), looks := false }, kinds := [], alts := [], laidByText := true, laidKinds := [.data, .pinned], laidTests := true, laidLooks := .later }
def FnExactIsValidNetCardSaid : Prop := Claim7.holds Tryz.pinned (.plain (OpenSpec.ofChange fnExactIsValidNetSpec)) fnExactIsValidNetCard

/-- THE SECOND FORM's CARD OF 'laws.FnExactNewNet'. -/
def fnExactNewNetUptoCard : Claim7 := { stood := { row := fnExactNewNetUptoRow, standIns := [], harness := (true, "4f2e398a48aa528b17cc1c4d96015f972a0d98632de52efe797a3530a18ac49d"), looks := false }, kinds := [], alts := [], laidByText := true, laidKinds := [.data, .pinned], laidTests := true, laidLooks := .later }
def FnExactNewNetUptoCardSaid : Prop := Claim7.holds Tryz.pinned (.plain (OpenSpec.upto fnExactNewNetSpec)) fnExactNewNetUptoCard

/-- THE SECOND FORM's CARD OF 'laws.FnExactIsValidNet'. -/
def fnExactIsValidNetUptoCard : Claim7 := { stood := { row := fnExactIsValidNetUptoRow, standIns := [], harness := (true, "4f2e398a48aa528b17cc1c4d96015f972a0d98632de52efe797a3530a18ac49d"), looks := false }, kinds := [], alts := [], laidByText := true, laidKinds := [.data, .pinned], laidTests := true, laidLooks := .later }
def FnExactIsValidNetUptoCardSaid : Prop := Claim7.holds Tryz.pinned (.plain (OpenSpec.upto fnExactIsValidNetSpec)) fnExactIsValidNetUptoCard
end Rows
end Go.Proofs.YtpjljbhodnlhmaaGreatDoor
