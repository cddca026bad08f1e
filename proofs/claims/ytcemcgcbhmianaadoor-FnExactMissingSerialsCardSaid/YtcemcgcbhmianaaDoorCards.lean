/-
  DERIVED. GIVEN WITH THE SEED: THE CARDS: each row of YtcemcgcbhmianaaDoorRows.lean that lists a variable, with what it lists TIED to the program's text (the seventh form; the later family's looks); each row that meets fmt, with fmt's text TOLD by the authors' own Lean function (tested against real Go, not proved from fmt's source: count such statements apart). THE CARD IS WHAT COUNTS. Prove the row's statement (the work); the ties are given (YtcemcgcbhmianaaDoorTie.lean); close each card by the builder's one call (the guide's Derived/Test/ToyasCard.lean, 'card_holds'). Laid BY PROGRAM, IN A SANDBOX (cutbox-door.mjs). By AI agents, Wed Nov 11 2026. No macro, syntax, notation, axiom, sorry.
-/
import Derived.Test.YtcemcgcbhmianaaDoorRows
import GoSem.ClaimSeven
namespace Go.Proofs.YtcemcgcbhmianaaDoor
namespace Rows

/-- THE TIED CARD OF 'laws.FnExactIsValidReceiveWindow'. -/
def fnExactIsValidReceiveWindowCard : Claim7 := { stood := { row := fnExactIsValidReceiveWindowRow, standIns := [], harness := (true, "085b8bb09a082d5a13ae88842d967c6534155f40078a9faf938d2db010964216"), looks := true }, kinds := [], alts := [], laidByText := true, laidKinds := [.data, .pinned], laidTests := true, laidLooks := .later }
def FnExactIsValidReceiveWindowCardSaid : Prop := Claim7.holds Tryd.pinned (.plain (OpenSpec.ofChange fnExactIsValidReceiveWindowSpec)) fnExactIsValidReceiveWindowCard

/-- THE TIED CARD OF 'laws.FnExactHighestSeen'. -/
def fnExactHighestSeenCard : Claim7 := { stood := { row := fnExactHighestSeenRow, standIns := [], harness := (true, "085b8bb09a082d5a13ae88842d967c6534155f40078a9faf938d2db010964216"), looks := true }, kinds := [], alts := [], laidByText := true, laidKinds := [.data, .pinned], laidTests := true, laidLooks := .later }
def FnExactHighestSeenCardSaid : Prop := Claim7.holds Tryd.pinned (.plain (OpenSpec.ofChange fnExactHighestSeenSpec)) fnExactHighestSeenCard

/-- THE TIED CARD OF 'laws.FnExactCountWaiting'. -/
def fnExactCountWaitingCard : Claim7 := { stood := { row := fnExactCountWaitingRow, standIns := [], harness := (true, "085b8bb09a082d5a13ae88842d967c6534155f40078a9faf938d2db010964216"), looks := true }, kinds := [], alts := [], laidByText := true, laidKinds := [.data, .pinned], laidTests := true, laidLooks := .later }
def FnExactCountWaitingCardSaid : Prop := Claim7.holds Tryd.pinned (.plain (OpenSpec.ofChange fnExactCountWaitingSpec)) fnExactCountWaitingCard

/-- THE TIED CARD OF 'laws.FnExactHaveItem'. -/
def fnExactHaveItemCard : Claim7 := { stood := { row := fnExactHaveItemRow, standIns := [], harness := (true, "085b8bb09a082d5a13ae88842d967c6534155f40078a9faf938d2db010964216"), looks := true }, kinds := [], alts := [], laidByText := true, laidKinds := [.data, .pinned], laidTests := true, laidLooks := .later }
def FnExactHaveItemCardSaid : Prop := Claim7.holds Tryd.pinned (.plain (OpenSpec.ofChange fnExactHaveItemSpec)) fnExactHaveItemCard

/-- THE TIED CARD OF 'laws.FnExactMissingSerials'. -/
def fnExactMissingSerialsCard : Claim7 := { stood := { row := fnExactMissingSerialsRow, standIns := [], harness := (true, "085b8bb09a082d5a13ae88842d967c6534155f40078a9faf938d2db010964216"), looks := true }, kinds := [], alts := [], laidByText := true, laidKinds := [.data, .pinned], laidTests := true, laidLooks := .later }
def FnExactMissingSerialsCardSaid : Prop := Claim7.holds Tryd.pinned (.plain (OpenSpec.ofChange fnExactMissingSerialsSpec)) fnExactMissingSerialsCard

/-- THE TIED CARD OF 'laws.FnExactSlotsText'. -/
def fnExactSlotsTextCard : Claim7 := { stood := { row := fnExactSlotsTextRow, standIns := [], harness := (true, "085b8bb09a082d5a13ae88842d967c6534155f40078a9faf938d2db010964216"), looks := true }, kinds := [], alts := [], laidByText := true, laidKinds := [.data, .data, .data, .data, .pinned], laidTests := true, laidLooks := .later }
def FnExactSlotsTextCardSaid : Prop := Claim7.holds Tryd.pinned (.plain (OpenSpec.ofChange fnExactSlotsTextSpec)) fnExactSlotsTextCard

/-- THE TIED CARD OF 'laws.FnExactIsValidReceiver'. -/
def fnExactIsValidReceiverCard : Claim7 := { stood := { row := fnExactIsValidReceiverRow, standIns := [], harness := (true, "085b8bb09a082d5a13ae88842d967c6534155f40078a9faf938d2db010964216"), looks := true }, kinds := [], alts := [], laidByText := true, laidKinds := [.data, .pinned], laidTests := true, laidLooks := .later }
def FnExactIsValidReceiverCardSaid : Prop := Claim7.holds Tryd.pinned (.plain (OpenSpec.ofChange fnExactIsValidReceiverSpec)) fnExactIsValidReceiverCard

/-- THE TIED CARD OF 'laws.FnExactIsSettled'. -/
def fnExactIsSettledCard : Claim7 := { stood := { row := fnExactIsSettledRow, standIns := [], harness := (true, "085b8bb09a082d5a13ae88842d967c6534155f40078a9faf938d2db010964216"), looks := true }, kinds := [], alts := [], laidByText := true, laidKinds := [.data, .pinned], laidTests := true, laidLooks := .later }
def FnExactIsSettledCardSaid : Prop := Claim7.holds Tryd.pinned (.plain (OpenSpec.ofChange fnExactIsSettledSpec)) fnExactIsSettledCard

/-- THE TIED CARD OF 'laws.FnExactStateOf'. -/
def fnExactStateOfCard : Claim7 := { stood := { row := fnExactStateOfRow, standIns := [], harness := (true, "085b8bb09a082d5a13ae88842d967c6534155f40078a9faf938d2db010964216"), looks := true }, kinds := [], alts := [], laidByText := true, laidKinds := [.data, .pinned], laidTests := true, laidLooks := .later }
def FnExactStateOfCardSaid : Prop := Claim7.holds Tryd.pinned (.plain (OpenSpec.ofChange fnExactStateOfSpec)) fnExactStateOfCard

/-- THE TIED CARD OF 'laws.FnExactAwaitedSerials'. -/
def fnExactAwaitedSerialsCard : Claim7 := { stood := { row := fnExactAwaitedSerialsRow, standIns := [], harness := (true, "085b8bb09a082d5a13ae88842d967c6534155f40078a9faf938d2db010964216"), looks := true }, kinds := [], alts := [], laidByText := true, laidKinds := [.data, .pinned], laidTests := true, laidLooks := .later }
def FnExactAwaitedSerialsCardSaid : Prop := Claim7.holds Tryd.pinned (.plain (OpenSpec.ofChange fnExactAwaitedSerialsSpec)) fnExactAwaitedSerialsCard

/-- THE TIED CARD OF 'laws.FnExactParseSlots'. -/
def fnExactParseSlotsCard : Claim7 := { stood := { row := fnExactParseSlotsRow, standIns := [], harness := (true, "085b8bb09a082d5a13ae88842d967c6534155f40078a9faf938d2db010964216"), looks := true }, kinds := [], alts := [], laidByText := true, laidKinds := [.data, .data, .data, .data, .sentinel, .sentinel, .pinned], laidTests := true, laidLooks := .later }
def FnExactParseSlotsCardSaid : Prop := Claim7.holds Tryd.pinned (.plain (OpenSpec.ofChange fnExactParseSlotsSpec)) fnExactParseSlotsCard

/-- THE SECOND FORM's CARD OF 'laws.FnExactIsValidReceiveWindow'. -/
def fnExactIsValidReceiveWindowUptoCard : Claim7 := { stood := { row := fnExactIsValidReceiveWindowUptoRow, standIns := [], harness := (true, "085b8bb09a082d5a13ae88842d967c6534155f40078a9faf938d2db010964216"), looks := true }, kinds := [], alts := [], laidByText := true, laidKinds := [.data, .pinned], laidTests := true, laidLooks := .later }
def FnExactIsValidReceiveWindowUptoCardSaid : Prop := Claim7.holds Tryd.pinned (.plain (OpenSpec.upto fnExactIsValidReceiveWindowSpec)) fnExactIsValidReceiveWindowUptoCard

/-- THE SECOND FORM's CARD OF 'laws.FnExactHighestSeen'. -/
def fnExactHighestSeenUptoCard : Claim7 := { stood := { row := fnExactHighestSeenUptoRow, standIns := [], harness := (true, "085b8bb09a082d5a13ae88842d967c6534155f40078a9faf938d2db010964216"), looks := true }, kinds := [], alts := [], laidByText := true, laidKinds := [.data, .pinned], laidTests := true, laidLooks := .later }
def FnExactHighestSeenUptoCardSaid : Prop := Claim7.holds Tryd.pinned (.plain (OpenSpec.upto fnExactHighestSeenSpec)) fnExactHighestSeenUptoCard

/-- THE SECOND FORM's CARD OF 'laws.FnExactCountWaiting'. -/
def fnExactCountWaitingUptoCard : Claim7 := { stood := { row := fnExactCountWaitingUptoRow, standIns := [], harness := (true, "085b8bb09a082d5a13ae88842d967c6534155f40078a9faf938d2db010964216"), looks := true }, kinds := [], alts := [], laidByText := true, laidKinds := [.data, .pinned], laidTests := true, laidLooks := .later }
def FnExactCountWaitingUptoCardSaid : Prop := Claim7.holds Tryd.pinned (.plain (OpenSpec.upto fnExactCountWaitingSpec)) fnExactCountWaitingUptoCard

/-- THE SECOND FORM's CARD OF 'laws.FnExactHaveItem'. -/
def fnExactHaveItemUptoCard : Claim7 := { stood := { row := fnExactHaveItemUptoRow, standIns := [], harness := (true, "085b8bb09a082d5a13ae88842d967c6534155f40078a9faf938d2db010964216"), looks := true }, kinds := [], alts := [], laidByText := true, laidKinds := [.data, .pinned], laidTests := true, laidLooks := .later }
def FnExactHaveItemUptoCardSaid : Prop := Claim7.holds Tryd.pinned (.plain (OpenSpec.upto fnExactHaveItemSpec)) fnExactHaveItemUptoCard

/-- THE SECOND FORM's CARD OF 'laws.FnExactMissingSerials'. -/
def fnExactMissingSerialsUptoCard : Claim7 := { stood := { row := fnExactMissingSerialsUptoRow, standIns := [], harness := (true, "085b8bb09a082d5a13ae88842d967c6534155f40078a9faf938d2db010964216"), looks := true }, kinds := [], alts := [], laidByText := true, laidKinds := [.data, .pinned], laidTests := true, laidLooks := .later }
def FnExactMissingSerialsUptoCardSaid : Prop := Claim7.holds Tryd.pinned (.plain (OpenSpec.upto fnExactMissingSerialsSpec)) fnExactMissingSerialsUptoCard

/-- THE SECOND FORM's CARD OF 'laws.FnExactSlotsText'. -/
def fnExactSlotsTextUptoCard : Claim7 := { stood := { row := fnExactSlotsTextUptoRow, standIns := [], harness := (true, "085b8bb09a082d5a13ae88842d967c6534155f40078a9faf938d2db010964216"), looks := true }, kinds := [], alts := [], laidByText := true, laidKinds := [.data, .data, .data, .data, .pinned], laidTests := true, laidLooks := .later }
def FnExactSlotsTextUptoCardSaid : Prop := Claim7.holds Tryd.pinned (.plain (OpenSpec.upto fnExactSlotsTextSpec)) fnExactSlotsTextUptoCard

/-- THE SECOND FORM's CARD OF 'laws.FnExactIsValidReceiver'. -/
def fnExactIsValidReceiverUptoCard : Claim7 := { stood := { row := fnExactIsValidReceiverUptoRow, standIns := [], harness := (true, "085b8bb09a082d5a13ae88842d967c6534155f40078a9faf938d2db010964216"), looks := true }, kinds := [], alts := [], laidByText := true, laidKinds := [.data, .pinned], laidTests := true, laidLooks := .later }
def FnExactIsValidReceiverUptoCardSaid : Prop := Claim7.holds Tryd.pinned (.plain (OpenSpec.upto fnExactIsValidReceiverSpec)) fnExactIsValidReceiverUptoCard

/-- THE SECOND FORM's CARD OF 'laws.FnExactIsSettled'. -/
def fnExactIsSettledUptoCard : Claim7 := { stood := { row := fnExactIsSettledUptoRow, standIns := [], harness := (true, "085b8bb09a082d5a13ae88842d967c6534155f40078a9faf938d2db010964216"), looks := true }, kinds := [], alts := [], laidByText := true, laidKinds := [.data, .pinned], laidTests := true, laidLooks := .later }
def FnExactIsSettledUptoCardSaid : Prop := Claim7.holds Tryd.pinned (.plain (OpenSpec.upto fnExactIsSettledSpec)) fnExactIsSettledUptoCard

/-- THE SECOND FORM's CARD OF 'laws.FnExactStateOf'. -/
def fnExactStateOfUptoCard : Claim7 := { stood := { row := fnExactStateOfUptoRow, standIns := [], harness := (true, "085b8bb09a082d5a13ae88842d967c6534155f40078a9faf938d2db010964216"), looks := true }, kinds := [], alts := [], laidByText := true, laidKinds := [.data, .pinned], laidTests := true, laidLooks := .later }
def FnExactStateOfUptoCardSaid : Prop := Claim7.holds Tryd.pinned (.plain (OpenSpec.upto fnExactStateOfSpec)) fnExactStateOfUptoCard

/-- THE SECOND FORM's CARD OF 'laws.FnExactAwaitedSerials'. -/
def fnExactAwaitedSerialsUptoCard : Claim7 := { stood := { row := fnExactAwaitedSerialsUptoRow, standIns := [], harness := (true, "085b8bb09a082d5a13ae88842d967c6534155f40078a9faf938d2db010964216"), looks := true }, kinds := [], alts := [], laidByText := true, laidKinds := [.data, .pinned], laidTests := true, laidLooks := .later }
def FnExactAwaitedSerialsUptoCardSaid : Prop := Claim7.holds Tryd.pinned (.plain (OpenSpec.upto fnExactAwaitedSerialsSpec)) fnExactAwaitedSerialsUptoCard

/-- THE SECOND FORM's CARD OF 'laws.FnExactParseSlots'. -/
def fnExactParseSlotsUptoCard : Claim7 := { stood := { row := fnExactParseSlotsUptoRow, standIns := [], harness := (true, "085b8bb09a082d5a13ae88842d967c6534155f40078a9faf938d2db010964216"), looks := true }, kinds := [], alts := [], laidByText := true, laidKinds := [.data, .data, .data, .data, .sentinel, .sentinel, .pinned], laidTests := true, laidLooks := .later }
def FnExactParseSlotsUptoCardSaid : Prop := Claim7.holds Tryd.pinned (.plain (OpenSpec.upto fnExactParseSlotsSpec)) fnExactParseSlotsUptoCard
end Rows
end Go.Proofs.YtcemcgcbhmianaaDoor
