/-
  DERIVED. GIVEN WITH THE SEED: THE CARDS: each row of YthdmnngmijbcbaaDoorRows.lean that lists a variable, with what it lists TIED to the program's text (the seventh form; the later family's looks); each row that meets fmt, with fmt's text TOLD by the authors' own Lean function (tested against real Go, not proved from fmt's source: count such statements apart). THE CARD IS WHAT COUNTS. Prove the row's statement (the work); the ties are given (YthdmnngmijbcbaaDoorTie.lean); close each card by the builder's one call (the guide's Derived/Test/ToyasCard.lean, 'card_holds'). Laid BY PROGRAM, IN A SANDBOX (cutbox-door.mjs). By AI agents, Wed Nov 11 2026. No macro, syntax, notation, axiom, sorry.
-/
import Derived.Test.YthdmnngmijbcbaaDoorRows
import GoSem.ClaimSeven
namespace Go.Proofs.YthdmnngmijbcbaaDoor
namespace Rows

/-- THE TIED CARD OF 'laws.FnExactIsValidSendWindow'. -/
def fnExactIsValidSendWindowCard : Claim7 := { stood := { row := fnExactIsValidSendWindowRow, standIns := [], harness := (true, "0e3caeee3d9a1bba2fa227ee45184878ac4f56f6e5c56bdc236cfaa563e33348"), looks := false }, kinds := [], alts := [], laidByText := true, laidKinds := [.data, .pinned], laidTests := true, laidLooks := .later }
def FnExactIsValidSendWindowCardSaid : Prop := Claim7.holds Tryd.pinned (.plain (OpenSpec.ofChange fnExactIsValidSendWindowSpec)) fnExactIsValidSendWindowCard

/-- THE TIED CARD OF 'laws.FnExactLeadOf'. -/
def fnExactLeadOfCard : Claim7 := { stood := { row := fnExactLeadOfRow, standIns := [], harness := (true, "0e3caeee3d9a1bba2fa227ee45184878ac4f56f6e5c56bdc236cfaa563e33348"), looks := false }, kinds := [], alts := [], laidByText := true, laidKinds := [.data, .pinned], laidTests := true, laidLooks := .later }
def FnExactLeadOfCardSaid : Prop := Claim7.holds Tryd.pinned (.plain (OpenSpec.ofChange fnExactLeadOfSpec)) fnExactLeadOfCard

/-- THE TIED CARD OF 'laws.FnExactHeldItem'. -/
def fnExactHeldItemCard : Claim7 := { stood := { row := fnExactHeldItemRow, standIns := [], harness := (true, "0e3caeee3d9a1bba2fa227ee45184878ac4f56f6e5c56bdc236cfaa563e33348"), looks := false }, kinds := [], alts := [], laidByText := true, laidKinds := [.data, .pinned], laidTests := true, laidLooks := .later }
def FnExactHeldItemCardSaid : Prop := Claim7.holds Tryd.pinned (.plain (OpenSpec.ofChange fnExactHeldItemSpec)) fnExactHeldItemCard

/-- THE TIED CARD OF 'laws.FnExactStatusOf'. -/
def fnExactStatusOfCard : Claim7 := { stood := { row := fnExactStatusOfRow, standIns := [], harness := (true, "0e3caeee3d9a1bba2fa227ee45184878ac4f56f6e5c56bdc236cfaa563e33348"), looks := false }, kinds := [], alts := [], laidByText := true, laidKinds := [.data, .pinned], laidTests := true, laidLooks := .later }
def FnExactStatusOfCardSaid : Prop := Claim7.holds Tryd.pinned (.plain (OpenSpec.ofChange fnExactStatusOfSpec)) fnExactStatusOfCard

/-- THE TIED CARD OF 'laws.FnExactAnswerTo'. -/
def fnExactAnswerToCard : Claim7 := { stood := { row := fnExactAnswerToRow, standIns := [], harness := (true, "0e3caeee3d9a1bba2fa227ee45184878ac4f56f6e5c56bdc236cfaa563e33348"), looks := false }, kinds := [], alts := [], laidByText := true, laidKinds := [.data, .pinned], laidTests := true, laidLooks := .later }
def FnExactAnswerToCardSaid : Prop := Claim7.holds Tryd.pinned (.plain (OpenSpec.ofChange fnExactAnswerToSpec)) fnExactAnswerToCard

/-- THE TIED CARD OF 'laws.FnExactHeldSerials'. -/
def fnExactHeldSerialsCard : Claim7 := { stood := { row := fnExactHeldSerialsRow, standIns := [], harness := (true, "0e3caeee3d9a1bba2fa227ee45184878ac4f56f6e5c56bdc236cfaa563e33348"), looks := false }, kinds := [], alts := [], laidByText := true, laidKinds := [.data, .pinned], laidTests := true, laidLooks := .later }
def FnExactHeldSerialsCardSaid : Prop := Claim7.holds Tryd.pinned (.plain (OpenSpec.ofChange fnExactHeldSerialsSpec)) fnExactHeldSerialsCard

/-- THE TIED CARD OF 'laws.FnExactIsValidSource'. -/
def fnExactIsValidSourceCard : Claim7 := { stood := { row := fnExactIsValidSourceRow, standIns := [], harness := (true, "0e3caeee3d9a1bba2fa227ee45184878ac4f56f6e5c56bdc236cfaa563e33348"), looks := false }, kinds := [], alts := [], laidByText := true, laidKinds := [.data, .pinned], laidTests := true, laidLooks := .later }
def FnExactIsValidSourceCardSaid : Prop := Claim7.holds Tryd.pinned (.plain (OpenSpec.ofChange fnExactIsValidSourceSpec)) fnExactIsValidSourceCard

/-- THE TIED CARD OF 'laws.FnExactTicksToStatus'. -/
def fnExactTicksToStatusCard : Claim7 := { stood := { row := fnExactTicksToStatusRow, standIns := [], harness := (true, "0e3caeee3d9a1bba2fa227ee45184878ac4f56f6e5c56bdc236cfaa563e33348"), looks := false }, kinds := [], alts := [], laidByText := true, laidKinds := [.data, .pinned], laidTests := true, laidLooks := .later }
def FnExactTicksToStatusCardSaid : Prop := Claim7.holds Tryd.pinned (.plain (OpenSpec.ofChange fnExactTicksToStatusSpec)) fnExactTicksToStatusCard

/-- THE TIED CARD OF 'laws.FnExactNewSource'. -/
def fnExactNewSourceCard : Claim7 := { stood := { row := fnExactNewSourceRow, standIns := [], harness := (true, "0e3caeee3d9a1bba2fa227ee45184878ac4f56f6e5c56bdc236cfaa563e33348"), looks := false }, kinds := [], alts := [], laidByText := true, laidKinds := [.data, .pinned], laidTests := true, laidLooks := .later }
def FnExactNewSourceCardSaid : Prop := Claim7.holds Tryd.pinned (.plain (OpenSpec.ofChange fnExactNewSourceSpec)) fnExactNewSourceCard

/-- THE TIED CARD OF 'laws.FnExactIsOnHold'. -/
def fnExactIsOnHoldCard : Claim7 := { stood := { row := fnExactIsOnHoldRow, standIns := [], harness := (true, "0e3caeee3d9a1bba2fa227ee45184878ac4f56f6e5c56bdc236cfaa563e33348"), looks := false }, kinds := [], alts := [], laidByText := true, laidKinds := [.data, .pinned], laidTests := true, laidLooks := .later }
def FnExactIsOnHoldCardSaid : Prop := Claim7.holds Tryd.pinned (.plain (OpenSpec.ofChange fnExactIsOnHoldSpec)) fnExactIsOnHoldCard

/-- THE SECOND FORM's CARD OF 'laws.FnExactIsValidSendWindow'. -/
def fnExactIsValidSendWindowUptoCard : Claim7 := { stood := { row := fnExactIsValidSendWindowUptoRow, standIns := [], harness := (true, "0e3caeee3d9a1bba2fa227ee45184878ac4f56f6e5c56bdc236cfaa563e33348"), looks := false }, kinds := [], alts := [], laidByText := true, laidKinds := [.data, .pinned], laidTests := true, laidLooks := .later }
def FnExactIsValidSendWindowUptoCardSaid : Prop := Claim7.holds Tryd.pinned (.plain (OpenSpec.upto fnExactIsValidSendWindowSpec)) fnExactIsValidSendWindowUptoCard

/-- THE SECOND FORM's CARD OF 'laws.FnExactLeadOf'. -/
def fnExactLeadOfUptoCard : Claim7 := { stood := { row := fnExactLeadOfUptoRow, standIns := [], harness := (true, "0e3caeee3d9a1bba2fa227ee45184878ac4f56f6e5c56bdc236cfaa563e33348"), looks := false }, kinds := [], alts := [], laidByText := true, laidKinds := [.data, .pinned], laidTests := true, laidLooks := .later }
def FnExactLeadOfUptoCardSaid : Prop := Claim7.holds Tryd.pinned (.plain (OpenSpec.upto fnExactLeadOfSpec)) fnExactLeadOfUptoCard

/-- THE SECOND FORM's CARD OF 'laws.FnExactHeldItem'. -/
def fnExactHeldItemUptoCard : Claim7 := { stood := { row := fnExactHeldItemUptoRow, standIns := [], harness := (true, "0e3caeee3d9a1bba2fa227ee45184878ac4f56f6e5c56bdc236cfaa563e33348"), looks := false }, kinds := [], alts := [], laidByText := true, laidKinds := [.data, .pinned], laidTests := true, laidLooks := .later }
def FnExactHeldItemUptoCardSaid : Prop := Claim7.holds Tryd.pinned (.plain (OpenSpec.upto fnExactHeldItemSpec)) fnExactHeldItemUptoCard

/-- THE SECOND FORM's CARD OF 'laws.FnExactStatusOf'. -/
def fnExactStatusOfUptoCard : Claim7 := { stood := { row := fnExactStatusOfUptoRow, standIns := [], harness := (true, "0e3caeee3d9a1bba2fa227ee45184878ac4f56f6e5c56bdc236cfaa563e33348"), looks := false }, kinds := [], alts := [], laidByText := true, laidKinds := [.data, .pinned], laidTests := true, laidLooks := .later }
def FnExactStatusOfUptoCardSaid : Prop := Claim7.holds Tryd.pinned (.plain (OpenSpec.upto fnExactStatusOfSpec)) fnExactStatusOfUptoCard

/-- THE SECOND FORM's CARD OF 'laws.FnExactAnswerTo'. -/
def fnExactAnswerToUptoCard : Claim7 := { stood := { row := fnExactAnswerToUptoRow, standIns := [], harness := (true, "0e3caeee3d9a1bba2fa227ee45184878ac4f56f6e5c56bdc236cfaa563e33348"), looks := false }, kinds := [], alts := [], laidByText := true, laidKinds := [.data, .pinned], laidTests := true, laidLooks := .later }
def FnExactAnswerToUptoCardSaid : Prop := Claim7.holds Tryd.pinned (.plain (OpenSpec.upto fnExactAnswerToSpec)) fnExactAnswerToUptoCard

/-- THE SECOND FORM's CARD OF 'laws.FnExactHeldSerials'. -/
def fnExactHeldSerialsUptoCard : Claim7 := { stood := { row := fnExactHeldSerialsUptoRow, standIns := [], harness := (true, "0e3caeee3d9a1bba2fa227ee45184878ac4f56f6e5c56bdc236cfaa563e33348"), looks := false }, kinds := [], alts := [], laidByText := true, laidKinds := [.data, .pinned], laidTests := true, laidLooks := .later }
def FnExactHeldSerialsUptoCardSaid : Prop := Claim7.holds Tryd.pinned (.plain (OpenSpec.upto fnExactHeldSerialsSpec)) fnExactHeldSerialsUptoCard

/-- THE SECOND FORM's CARD OF 'laws.FnExactIsValidSource'. -/
def fnExactIsValidSourceUptoCard : Claim7 := { stood := { row := fnExactIsValidSourceUptoRow, standIns := [], harness := (true, "0e3caeee3d9a1bba2fa227ee45184878ac4f56f6e5c56bdc236cfaa563e33348"), looks := false }, kinds := [], alts := [], laidByText := true, laidKinds := [.data, .pinned], laidTests := true, laidLooks := .later }
def FnExactIsValidSourceUptoCardSaid : Prop := Claim7.holds Tryd.pinned (.plain (OpenSpec.upto fnExactIsValidSourceSpec)) fnExactIsValidSourceUptoCard

/-- THE SECOND FORM's CARD OF 'laws.FnExactTicksToStatus'. -/
def fnExactTicksToStatusUptoCard : Claim7 := { stood := { row := fnExactTicksToStatusUptoRow, standIns := [], harness := (true, "0e3caeee3d9a1bba2fa227ee45184878ac4f56f6e5c56bdc236cfaa563e33348"), looks := false }, kinds := [], alts := [], laidByText := true, laidKinds := [.data, .pinned], laidTests := true, laidLooks := .later }
def FnExactTicksToStatusUptoCardSaid : Prop := Claim7.holds Tryd.pinned (.plain (OpenSpec.upto fnExactTicksToStatusSpec)) fnExactTicksToStatusUptoCard

/-- THE SECOND FORM's CARD OF 'laws.FnExactNewSource'. -/
def fnExactNewSourceUptoCard : Claim7 := { stood := { row := fnExactNewSourceUptoRow, standIns := [], harness := (true, "0e3caeee3d9a1bba2fa227ee45184878ac4f56f6e5c56bdc236cfaa563e33348"), looks := false }, kinds := [], alts := [], laidByText := true, laidKinds := [.data, .pinned], laidTests := true, laidLooks := .later }
def FnExactNewSourceUptoCardSaid : Prop := Claim7.holds Tryd.pinned (.plain (OpenSpec.upto fnExactNewSourceSpec)) fnExactNewSourceUptoCard

/-- THE SECOND FORM's CARD OF 'laws.FnExactIsOnHold'. -/
def fnExactIsOnHoldUptoCard : Claim7 := { stood := { row := fnExactIsOnHoldUptoRow, standIns := [], harness := (true, "0e3caeee3d9a1bba2fa227ee45184878ac4f56f6e5c56bdc236cfaa563e33348"), looks := false }, kinds := [], alts := [], laidByText := true, laidKinds := [.data, .pinned], laidTests := true, laidLooks := .later }
def FnExactIsOnHoldUptoCardSaid : Prop := Claim7.holds Tryd.pinned (.plain (OpenSpec.upto fnExactIsOnHoldSpec)) fnExactIsOnHoldUptoCard
end Rows
end Go.Proofs.YthdmnngmijbcbaaDoor
