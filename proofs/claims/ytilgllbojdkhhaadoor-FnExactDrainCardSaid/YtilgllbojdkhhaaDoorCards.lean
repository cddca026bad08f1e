/-
  DERIVED. GIVEN WITH THE SEED: THE CARDS: each row of YtilgllbojdkhhaaDoorRows.lean that lists a variable, with what it lists TIED to the program's text (the seventh form; the later family's looks); each row that meets fmt, with fmt's text TOLD by the authors' own Lean function (tested against real Go, not proved from fmt's source: count such statements apart). THE CARD IS WHAT COUNTS. Prove the row's statement (the work); the ties are given (YtilgllbojdkhhaaDoorTie.lean); close each card by the builder's one call (the guide's Derived/Test/ToyasCard.lean, 'card_holds'). Laid BY PROGRAM, IN A SANDBOX (cutbox-door.mjs). By AI agents, Wed Nov 11 2026. No macro, syntax, notation, axiom, sorry.
-/
import Derived.Test.YtilgllbojdkhhaaDoorRows
import GoSem.ClaimSeven
namespace Go.Proofs.YtilgllbojdkhhaaDoor
namespace Rows

/-- THE TIED CARD OF 'laws.FnExactIsValidLink'. -/
def fnExactIsValidLinkCard : Claim7 := { stood := { row := fnExactIsValidLinkRow, standIns := [], harness := (true, "e26fea233a4a26b648c606b38682653ab86715f21a2545c216681396b84f2c40"), looks := false }, kinds := [], alts := [], laidByText := true, laidKinds := [.data, .pinned], laidTests := true, laidLooks := .later }
def FnExactIsValidLinkCardSaid : Prop := Claim7.holds Tryd.pinned (.plain (OpenSpec.ofChange fnExactIsValidLinkSpec)) fnExactIsValidLinkCard

/-- THE TIED CARD OF 'laws.FnExactNewLink'. -/
def fnExactNewLinkCard : Claim7 := { stood := { row := fnExactNewLinkRow, standIns := [], harness := (true, "e26fea233a4a26b648c606b38682653ab86715f21a2545c216681396b84f2c40"), looks := false }, kinds := [], alts := [], laidByText := true, laidKinds := [.data, .pinned], laidTests := true, laidLooks := .later }
def FnExactNewLinkCardSaid : Prop := Claim7.holds Tryd.pinned (.plain (OpenSpec.ofChange fnExactNewLinkSpec)) fnExactNewLinkCard

/-- THE TIED CARD OF 'laws.FnExactNextFate'. -/
def fnExactNextFateCard : Claim7 := { stood := { row := fnExactNextFateRow, standIns := [], harness := (true, "e26fea233a4a26b648c606b38682653ab86715f21a2545c216681396b84f2c40"), looks := false }, kinds := [], alts := [], laidByText := true, laidKinds := [.data, .pinned], laidTests := true, laidLooks := .later }
def FnExactNextFateCardSaid : Prop := Claim7.holds Tryd.pinned (.plain (OpenSpec.ofChange fnExactNextFateSpec)) fnExactNextFateCard

/-- THE TIED CARD OF 'laws.FnExactDrain'. -/
def fnExactDrainCard : Claim7 := { stood := { row := fnExactDrainRow, standIns := [], harness := (true, "e26fea233a4a26b648c606b38682653ab86715f21a2545c216681396b84f2c40"), looks := false }, kinds := [], alts := [], laidByText := true, laidKinds := [.data, .pinned], laidTests := true, laidLooks := .later }
def FnExactDrainCardSaid : Prop := Claim7.holds Tryd.pinned (.plain (OpenSpec.ofChange fnExactDrainSpec)) fnExactDrainCard

/-- THE TIED CARD OF 'laws.FnExactCountFates'. -/
def fnExactCountFatesCard : Claim7 := { stood := { row := fnExactCountFatesRow, standIns := [], harness := (true, "e26fea233a4a26b648c606b38682653ab86715f21a2545c216681396b84f2c40"), looks := false }, kinds := [], alts := [], laidByText := true, laidKinds := [.data, .pinned], laidTests := true, laidLooks := .later }
def FnExactCountFatesCardSaid : Prop := Claim7.holds Tryd.pinned (.plain (OpenSpec.ofChange fnExactCountFatesSpec)) fnExactCountFatesCard

/-- THE TIED CARD OF 'laws.FnExactIsValidStep'. -/
def fnExactIsValidStepCard : Claim7 := { stood := { row := fnExactIsValidStepRow, standIns := [], harness := (true, "e26fea233a4a26b648c606b38682653ab86715f21a2545c216681396b84f2c40"), looks := false }, kinds := [], alts := [], laidByText := true, laidKinds := [.data, .pinned], laidTests := true, laidLooks := .later }
def FnExactIsValidStepCardSaid : Prop := Claim7.holds Tryd.pinned (.plain (OpenSpec.ofChange fnExactIsValidStepSpec)) fnExactIsValidStepCard

/-- THE SECOND FORM's CARD OF 'laws.FnExactIsValidLink'. -/
def fnExactIsValidLinkUptoCard : Claim7 := { stood := { row := fnExactIsValidLinkUptoRow, standIns := [], harness := (true, "e26fea233a4a26b648c606b38682653ab86715f21a2545c216681396b84f2c40"), looks := false }, kinds := [], alts := [], laidByText := true, laidKinds := [.data, .pinned], laidTests := true, laidLooks := .later }
def FnExactIsValidLinkUptoCardSaid : Prop := Claim7.holds Tryd.pinned (.plain (OpenSpec.upto fnExactIsValidLinkSpec)) fnExactIsValidLinkUptoCard

/-- THE SECOND FORM's CARD OF 'laws.FnExactNewLink'. -/
def fnExactNewLinkUptoCard : Claim7 := { stood := { row := fnExactNewLinkUptoRow, standIns := [], harness := (true, "e26fea233a4a26b648c606b38682653ab86715f21a2545c216681396b84f2c40"), looks := false }, kinds := [], alts := [], laidByText := true, laidKinds := [.data, .pinned], laidTests := true, laidLooks := .later }
def FnExactNewLinkUptoCardSaid : Prop := Claim7.holds Tryd.pinned (.plain (OpenSpec.upto fnExactNewLinkSpec)) fnExactNewLinkUptoCard

/-- THE SECOND FORM's CARD OF 'laws.FnExactNextFate'. -/
def fnExactNextFateUptoCard : Claim7 := { stood := { row := fnExactNextFateUptoRow, standIns := [], harness := (true, "e26fea233a4a26b648c606b38682653ab86715f21a2545c216681396b84f2c40"), looks := false }, kinds := [], alts := [], laidByText := true, laidKinds := [.data, .pinned], laidTests := true, laidLooks := .later }
def FnExactNextFateUptoCardSaid : Prop := Claim7.holds Tryd.pinned (.plain (OpenSpec.upto fnExactNextFateSpec)) fnExactNextFateUptoCard

/-- THE SECOND FORM's CARD OF 'laws.FnExactDrain'. -/
def fnExactDrainUptoCard : Claim7 := { stood := { row := fnExactDrainUptoRow, standIns := [], harness := (true, "e26fea233a4a26b648c606b38682653ab86715f21a2545c216681396b84f2c40"), looks := false }, kinds := [], alts := [], laidByText := true, laidKinds := [.data, .pinned], laidTests := true, laidLooks := .later }
def FnExactDrainUptoCardSaid : Prop := Claim7.holds Tryd.pinned (.plain (OpenSpec.upto fnExactDrainSpec)) fnExactDrainUptoCard

/-- THE SECOND FORM's CARD OF 'laws.FnExactCountFates'. -/
def fnExactCountFatesUptoCard : Claim7 := { stood := { row := fnExactCountFatesUptoRow, standIns := [], harness := (true, "e26fea233a4a26b648c606b38682653ab86715f21a2545c216681396b84f2c40"), looks := false }, kinds := [], alts := [], laidByText := true, laidKinds := [.data, .pinned], laidTests := true, laidLooks := .later }
def FnExactCountFatesUptoCardSaid : Prop := Claim7.holds Tryd.pinned (.plain (OpenSpec.upto fnExactCountFatesSpec)) fnExactCountFatesUptoCard

/-- THE SECOND FORM's CARD OF 'laws.FnExactIsValidStep'. -/
def fnExactIsValidStepUptoCard : Claim7 := { stood := { row := fnExactIsValidStepUptoRow, standIns := [], harness := (true, "e26fea233a4a26b648c606b38682653ab86715f21a2545c216681396b84f2c40"), looks := false }, kinds := [], alts := [], laidByText := true, laidKinds := [.data, .pinned], laidTests := true, laidLooks := .later }
def FnExactIsValidStepUptoCardSaid : Prop := Claim7.holds Tryd.pinned (.plain (OpenSpec.upto fnExactIsValidStepSpec)) fnExactIsValidStepUptoCard
end Rows
end Go.Proofs.YtilgllbojdkhhaaDoor
