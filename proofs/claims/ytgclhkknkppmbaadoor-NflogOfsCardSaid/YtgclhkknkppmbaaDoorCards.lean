/-
  DERIVED. GIVEN WITH THE SEED: THE CARDS: each row of YtgclhkknkppmbaaDoorRows.lean that lists a variable, with what it lists TIED to the program's text (the seventh form; the later family's looks); each row that meets fmt, with fmt's text TOLD by the authors' own Lean function (tested against real Go, not proved from fmt's source: count such statements apart). THE CARD IS WHAT COUNTS. Prove the row's statement (the work); the ties are given (YtgclhkknkppmbaaDoorTie.lean); close each card by the builder's one call (the guide's Derived/Test/ToyasCard.lean, 'card_holds'). Laid BY PROGRAM, IN A SANDBOX (cutbox-door.mjs). By AI agents, Wed Nov 11 2026. No macro, syntax, notation, axiom, sorry.
-/
import Derived.Test.YtgclhkknkppmbaaDoorRows
import GoSem.ClaimSeven
namespace Go.Proofs.YtgclhkknkppmbaaDoor
namespace Rows

/-- THE TIED CARD OF 'watchfirelaw09.EntryOrder'. -/
def entryOrderCard : Claim7 := { stood := { row := entryOrderRow, standIns := [], harness := (true, "af031de8c6cf975fabae3846c6a386be8b579e000db8defee2ab8a8c6d36aa49"), looks := true }, kinds := [], alts := [], laidByText := true, laidKinds := [.data, .data, .data], laidTests := true, laidLooks := .later }
def EntryOrderCardSaid : Prop := Claim7.holds Tryd.pinned (.plain (OpenSpec.ofChange entryOrderSpec)) entryOrderCard

/-- THE TIED CARD OF 'watchfirelaw09.EntryLater'. -/
def entryLaterCard : Claim7 := { stood := { row := entryLaterRow, standIns := [], harness := (true, "af031de8c6cf975fabae3846c6a386be8b579e000db8defee2ab8a8c6d36aa49"), looks := true }, kinds := [], alts := [], laidByText := true, laidKinds := [.data, .data, .data], laidTests := true, laidLooks := .later }
def EntryLaterCardSaid : Prop := Claim7.holds Tryd.pinned (.plain (OpenSpec.ofChange entryLaterSpec)) entryLaterCard

/-- THE TIED CARD OF 'watchfirelaw09.EntryAbove'. -/
def entryAboveCard : Claim7 := { stood := { row := entryAboveRow, standIns := [], harness := (true, "af031de8c6cf975fabae3846c6a386be8b579e000db8defee2ab8a8c6d36aa49"), looks := true }, kinds := [], alts := [], laidByText := true, laidKinds := [.data, .data, .data], laidTests := true, laidLooks := .later }
def EntryAboveCardSaid : Prop := Claim7.holds Tryd.pinned (.plain (OpenSpec.ofChange entryAboveSpec)) entryAboveCard

/-- THE TIED CARD OF 'watchfirelaw12.NflogEntries'. -/
def nflogEntriesCard : Claim7 := { stood := { row := nflogEntriesRow, standIns := [], harness := (true, "af031de8c6cf975fabae3846c6a386be8b579e000db8defee2ab8a8c6d36aa49"), looks := true }, kinds := [], alts := [], laidByText := true, laidKinds := [.data, .data, .data, .sentinel, .sentinel], laidTests := true, laidLooks := .later }
def NflogEntriesCardSaid : Prop := Claim7.holds Tryd.pinned (.plain (OpenSpec.ofChange nflogEntriesSpec)) nflogEntriesCard

/-- THE TIED CARD OF 'watchfirelaw12.NflogNeeds'. -/
def nflogNeedsCard : Claim7 := { stood := { row := nflogNeedsRow, standIns := [], harness := (true, "af031de8c6cf975fabae3846c6a386be8b579e000db8defee2ab8a8c6d36aa49"), looks := true }, kinds := [], alts := [], laidByText := true, laidKinds := [.data, .data, .data, .sentinel, .sentinel], laidTests := true, laidLooks := .later }
def NflogNeedsCardSaid : Prop := Claim7.holds Tryd.pinned (.plain (OpenSpec.ofChange nflogNeedsSpec)) nflogNeedsCard

/-- THE TIED CARD OF 'watchfirelaw12.NflogKeys'. -/
def nflogKeysCard : Claim7 := { stood := { row := nflogKeysRow, standIns := [], harness := (true, "af031de8c6cf975fabae3846c6a386be8b579e000db8defee2ab8a8c6d36aa49"), looks := true }, kinds := [], alts := [], laidByText := true, laidKinds := [.data, .data, .data, .sentinel, .sentinel], laidTests := true, laidLooks := .later }
def NflogKeysCardSaid : Prop := Claim7.holds Tryd.pinned (.plain (OpenSpec.ofChange nflogKeysSpec)) nflogKeysCard

/-- THE TIED CARD OF 'watchfirelaw12.NflogWaits'. -/
def nflogWaitsCard : Claim7 := { stood := { row := nflogWaitsRow, standIns := [], harness := (true, "af031de8c6cf975fabae3846c6a386be8b579e000db8defee2ab8a8c6d36aa49"), looks := true }, kinds := [], alts := [], laidByText := true, laidKinds := [.data, .data, .data, .sentinel, .sentinel], laidTests := true, laidLooks := .later }
def NflogWaitsCardSaid : Prop := Claim7.holds Tryd.pinned (.plain (OpenSpec.ofChange nflogWaitsSpec)) nflogWaitsCard

/-- THE TIED CARD OF 'watchfirelaw12.NflogCalm'. -/
def nflogCalmCard : Claim7 := { stood := { row := nflogCalmRow, standIns := [], harness := (true, "af031de8c6cf975fabae3846c6a386be8b579e000db8defee2ab8a8c6d36aa49"), looks := true }, kinds := [], alts := [], laidByText := true, laidKinds := [.data, .data, .data, .sentinel, .sentinel], laidTests := true, laidLooks := .later }
def NflogCalmCardSaid : Prop := Claim7.holds Tryd.pinned (.plain (OpenSpec.ofChange nflogCalmSpec)) nflogCalmCard

/-- THE TIED CARD OF 'watchfirelaw09.EntryBack'. -/
def entryBackCard : Claim7 := { stood := { row := entryBackRow, standIns := [], harness := (true, "af031de8c6cf975fabae3846c6a386be8b579e000db8defee2ab8a8c6d36aa49"), looks := true }, kinds := [], alts := [], laidByText := true, laidKinds := [.data, .data, .data, .sentinel, .sentinel], laidTests := true, laidLooks := .later }
def EntryBackCardSaid : Prop := Claim7.holds Tryd.pinned (.plain (OpenSpec.ofChange entryBackSpec)) entryBackCard

/-- THE TIED CARD OF 'watchfirelaw12.NflogOfs'. -/
def nflogOfsCard : Claim7 := { stood := { row := nflogOfsRow, standIns := [], harness := (true, "af031de8c6cf975fabae3846c6a386be8b579e000db8defee2ab8a8c6d36aa49"), looks := true }, kinds := [], alts := [], laidByText := true, laidKinds := [.data, .data, .data, .sentinel, .sentinel], laidTests := true, laidLooks := .later }
def NflogOfsCardSaid : Prop := Claim7.holds Tryd.pinned (.plain (OpenSpec.ofChange nflogOfsSpec)) nflogOfsCard

/-- THE TIED CARD OF 'watchfirelaw12.NflogBack'. -/
def nflogBackCard : Claim7 := { stood := { row := nflogBackRow, standIns := [], harness := (true, "af031de8c6cf975fabae3846c6a386be8b579e000db8defee2ab8a8c6d36aa49"), looks := true }, kinds := [], alts := [], laidByText := true, laidKinds := [.data, .data, .data, .sentinel, .sentinel], laidTests := true, laidLooks := .later }
def NflogBackCardSaid : Prop := Claim7.holds Tryd.pinned (.plain (OpenSpec.ofChange nflogBackSpec)) nflogBackCard

/-- THE SECOND FORM's CARD OF 'watchfirelaw09.EntryOrder'. -/
def entryOrderUptoCard : Claim7 := { stood := { row := entryOrderUptoRow, standIns := [], harness := (true, "af031de8c6cf975fabae3846c6a386be8b579e000db8defee2ab8a8c6d36aa49"), looks := true }, kinds := [], alts := [], laidByText := true, laidKinds := [.data, .data, .data], laidTests := true, laidLooks := .later }
def EntryOrderUptoCardSaid : Prop := Claim7.holds Tryd.pinned (.plain (OpenSpec.upto entryOrderSpec)) entryOrderUptoCard

/-- THE SECOND FORM's CARD OF 'watchfirelaw09.EntryLater'. -/
def entryLaterUptoCard : Claim7 := { stood := { row := entryLaterUptoRow, standIns := [], harness := (true, "af031de8c6cf975fabae3846c6a386be8b579e000db8defee2ab8a8c6d36aa49"), looks := true }, kinds := [], alts := [], laidByText := true, laidKinds := [.data, .data, .data], laidTests := true, laidLooks := .later }
def EntryLaterUptoCardSaid : Prop := Claim7.holds Tryd.pinned (.plain (OpenSpec.upto entryLaterSpec)) entryLaterUptoCard

/-- THE SECOND FORM's CARD OF 'watchfirelaw09.EntryAbove'. -/
def entryAboveUptoCard : Claim7 := { stood := { row := entryAboveUptoRow, standIns := [], harness := (true, "af031de8c6cf975fabae3846c6a386be8b579e000db8defee2ab8a8c6d36aa49"), looks := true }, kinds := [], alts := [], laidByText := true, laidKinds := [.data, .data, .data], laidTests := true, laidLooks := .later }
def EntryAboveUptoCardSaid : Prop := Claim7.holds Tryd.pinned (.plain (OpenSpec.upto entryAboveSpec)) entryAboveUptoCard

/-- THE SECOND FORM's CARD OF 'watchfirelaw12.NflogEntries'. -/
def nflogEntriesUptoCard : Claim7 := { stood := { row := nflogEntriesUptoRow, standIns := [], harness := (true, "af031de8c6cf975fabae3846c6a386be8b579e000db8defee2ab8a8c6d36aa49"), looks := true }, kinds := [], alts := [], laidByText := true, laidKinds := [.data, .data, .data, .sentinel, .sentinel], laidTests := true, laidLooks := .later }
def NflogEntriesUptoCardSaid : Prop := Claim7.holds Tryd.pinned (.plain (OpenSpec.upto nflogEntriesSpec)) nflogEntriesUptoCard

/-- THE SECOND FORM's CARD OF 'watchfirelaw12.NflogNeeds'. -/
def nflogNeedsUptoCard : Claim7 := { stood := { row := nflogNeedsUptoRow, standIns := [], harness := (true, "af031de8c6cf975fabae3846c6a386be8b579e000db8defee2ab8a8c6d36aa49"), looks := true }, kinds := [], alts := [], laidByText := true, laidKinds := [.data, .data, .data, .sentinel, .sentinel], laidTests := true, laidLooks := .later }
def NflogNeedsUptoCardSaid : Prop := Claim7.holds Tryd.pinned (.plain (OpenSpec.upto nflogNeedsSpec)) nflogNeedsUptoCard

/-- THE SECOND FORM's CARD OF 'watchfirelaw12.NflogKeys'. -/
def nflogKeysUptoCard : Claim7 := { stood := { row := nflogKeysUptoRow, standIns := [], harness := (true, "af031de8c6cf975fabae3846c6a386be8b579e000db8defee2ab8a8c6d36aa49"), looks := true }, kinds := [], alts := [], laidByText := true, laidKinds := [.data, .data, .data, .sentinel, .sentinel], laidTests := true, laidLooks := .later }
def NflogKeysUptoCardSaid : Prop := Claim7.holds Tryd.pinned (.plain (OpenSpec.upto nflogKeysSpec)) nflogKeysUptoCard

/-- THE SECOND FORM's CARD OF 'watchfirelaw12.NflogWaits'. -/
def nflogWaitsUptoCard : Claim7 := { stood := { row := nflogWaitsUptoRow, standIns := [], harness := (true, "af031de8c6cf975fabae3846c6a386be8b579e000db8defee2ab8a8c6d36aa49"), looks := true }, kinds := [], alts := [], laidByText := true, laidKinds := [.data, .data, .data, .sentinel, .sentinel], laidTests := true, laidLooks := .later }
def NflogWaitsUptoCardSaid : Prop := Claim7.holds Tryd.pinned (.plain (OpenSpec.upto nflogWaitsSpec)) nflogWaitsUptoCard

/-- THE SECOND FORM's CARD OF 'watchfirelaw12.NflogCalm'. -/
def nflogCalmUptoCard : Claim7 := { stood := { row := nflogCalmUptoRow, standIns := [], harness := (true, "af031de8c6cf975fabae3846c6a386be8b579e000db8defee2ab8a8c6d36aa49"), looks := true }, kinds := [], alts := [], laidByText := true, laidKinds := [.data, .data, .data, .sentinel, .sentinel], laidTests := true, laidLooks := .later }
def NflogCalmUptoCardSaid : Prop := Claim7.holds Tryd.pinned (.plain (OpenSpec.upto nflogCalmSpec)) nflogCalmUptoCard

/-- THE SECOND FORM's CARD OF 'watchfirelaw09.EntryBack'. -/
def entryBackUptoCard : Claim7 := { stood := { row := entryBackUptoRow, standIns := [], harness := (true, "af031de8c6cf975fabae3846c6a386be8b579e000db8defee2ab8a8c6d36aa49"), looks := true }, kinds := [], alts := [], laidByText := true, laidKinds := [.data, .data, .data, .sentinel, .sentinel], laidTests := true, laidLooks := .later }
def EntryBackUptoCardSaid : Prop := Claim7.holds Tryd.pinned (.plain (OpenSpec.upto entryBackSpec)) entryBackUptoCard

/-- THE SECOND FORM's CARD OF 'watchfirelaw12.NflogOfs'. -/
def nflogOfsUptoCard : Claim7 := { stood := { row := nflogOfsUptoRow, standIns := [], harness := (true, "af031de8c6cf975fabae3846c6a386be8b579e000db8defee2ab8a8c6d36aa49"), looks := true }, kinds := [], alts := [], laidByText := true, laidKinds := [.data, .data, .data, .sentinel, .sentinel], laidTests := true, laidLooks := .later }
def NflogOfsUptoCardSaid : Prop := Claim7.holds Tryd.pinned (.plain (OpenSpec.upto nflogOfsSpec)) nflogOfsUptoCard

/-- THE SECOND FORM's CARD OF 'watchfirelaw12.NflogBack'. -/
def nflogBackUptoCard : Claim7 := { stood := { row := nflogBackUptoRow, standIns := [], harness := (true, "af031de8c6cf975fabae3846c6a386be8b579e000db8defee2ab8a8c6d36aa49"), looks := true }, kinds := [], alts := [], laidByText := true, laidKinds := [.data, .data, .data, .sentinel, .sentinel], laidTests := true, laidLooks := .later }
def NflogBackUptoCardSaid : Prop := Claim7.holds Tryd.pinned (.plain (OpenSpec.upto nflogBackSpec)) nflogBackUptoCard
end Rows
end Go.Proofs.YtgclhkknkppmbaaDoor
