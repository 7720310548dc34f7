/-
  DERIVED. GIVEN WITH THE SEED: THE CARDS: each row of YtokgignmdgejoaaDoorRows.lean that lists a variable, with what it lists TIED to the program's text (the seventh form; the later family's looks); each row that meets fmt, with fmt's text TOLD by the authors' own Lean function (tested against real Go, not proved from fmt's source: count such statements apart). THE CARD IS WHAT COUNTS. Prove the row's statement (the work); the ties are given (YtokgignmdgejoaaDoorTie.lean); close each card by the builder's one call (the guide's Derived/Test/ToyasCard.lean, 'card_holds'). Laid BY PROGRAM, IN A SANDBOX (cutbox-door.mjs). By AI agents, Wed Nov 11 2026. No macro, syntax, notation, axiom, sorry.
-/
import Derived.Test.YtokgignmdgejoaaDoorRows
import GoSem.ClaimSeven
namespace Go.Proofs.YtokgignmdgejoaaDoor
namespace Rows

/-- THE TIED CARD OF 'watchfirelaw07.AlertFires'. -/
def alertFiresCard : Claim7 := { stood := { row := alertFiresRow, standIns := [], harness := (true, "b81fdd503646fff3942ac432e8985ae6a0b86e20da966cdbf1674d33facf5a7a"), looks := true }, kinds := [], alts := [], laidByText := true, laidKinds := [.data, .data, .data], laidTests := true, laidLooks := .later }
def AlertFiresCardSaid : Prop := Claim7.holds Tryd.pinned (.plain (OpenSpec.ofChange alertFiresSpec)) alertFiresCard

/-- THE TIED CARD OF 'watchfirelaw07.AlertPlays'. -/
def alertPlaysCard : Claim7 := { stood := { row := alertPlaysRow, standIns := [], harness := (true, "b81fdd503646fff3942ac432e8985ae6a0b86e20da966cdbf1674d33facf5a7a"), looks := true }, kinds := [], alts := [], laidByText := true, laidKinds := [.data, .data, .data], laidTests := true, laidLooks := .later }
def AlertPlaysCardSaid : Prop := Claim7.holds Tryd.pinned (.plain (OpenSpec.ofChange alertPlaysSpec)) alertPlaysCard

/-- THE TIED CARD OF 'watchfirelaw07.AlertDrops'. -/
def alertDropsCard : Claim7 := { stood := { row := alertDropsRow, standIns := [], harness := (true, "b81fdd503646fff3942ac432e8985ae6a0b86e20da966cdbf1674d33facf5a7a"), looks := true }, kinds := [], alts := [], laidByText := true, laidKinds := [.data, .data, .data], laidTests := true, laidLooks := .later }
def AlertDropsCardSaid : Prop := Claim7.holds Tryd.pinned (.plain (OpenSpec.ofChange alertDropsSpec)) alertDropsCard

/-- THE TIED CARD OF 'watchfirelaw07.AlertApart'. -/
def alertApartCard : Claim7 := { stood := { row := alertApartRow, standIns := [], harness := (true, "b81fdd503646fff3942ac432e8985ae6a0b86e20da966cdbf1674d33facf5a7a"), looks := true }, kinds := [], alts := [], laidByText := true, laidKinds := [.data, .data, .data], laidTests := true, laidLooks := .later }
def AlertApartCardSaid : Prop := Claim7.holds Tryd.pinned (.plain (OpenSpec.ofChange alertApartSpec)) alertApartCard

/-- THE TIED CARD OF 'watchfirelaw07.AlertForks'. -/
def alertForksCard : Claim7 := { stood := { row := alertForksRow, standIns := [], harness := (true, "b81fdd503646fff3942ac432e8985ae6a0b86e20da966cdbf1674d33facf5a7a"), looks := true }, kinds := [], alts := [], laidByText := true, laidKinds := [.data, .data, .data], laidTests := true, laidLooks := .later }
def AlertForksCardSaid : Prop := Claim7.holds Tryd.pinned (.plain (OpenSpec.ofChange alertForksSpec)) alertForksCard

/-- THE TIED CARD OF 'watchfirelaw07.AlertGets'. -/
def alertGetsCard : Claim7 := { stood := { row := alertGetsRow, standIns := [], harness := (true, "b81fdd503646fff3942ac432e8985ae6a0b86e20da966cdbf1674d33facf5a7a"), looks := true }, kinds := [], alts := [], laidByText := true, laidKinds := [.data, .data, .data], laidTests := true, laidLooks := .later }
def AlertGetsCardSaid : Prop := Claim7.holds Tryd.pinned (.plain (OpenSpec.ofChange alertGetsSpec)) alertGetsCard

/-- THE SECOND FORM's CARD OF 'watchfirelaw07.AlertFires'. -/
def alertFiresUptoCard : Claim7 := { stood := { row := alertFiresUptoRow, standIns := [], harness := (true, "b81fdd503646fff3942ac432e8985ae6a0b86e20da966cdbf1674d33facf5a7a"), looks := true }, kinds := [], alts := [], laidByText := true, laidKinds := [.data, .data, .data], laidTests := true, laidLooks := .later }
def AlertFiresUptoCardSaid : Prop := Claim7.holds Tryd.pinned (.plain (OpenSpec.upto alertFiresSpec)) alertFiresUptoCard

/-- THE SECOND FORM's CARD OF 'watchfirelaw07.AlertPlays'. -/
def alertPlaysUptoCard : Claim7 := { stood := { row := alertPlaysUptoRow, standIns := [], harness := (true, "b81fdd503646fff3942ac432e8985ae6a0b86e20da966cdbf1674d33facf5a7a"), looks := true }, kinds := [], alts := [], laidByText := true, laidKinds := [.data, .data, .data], laidTests := true, laidLooks := .later }
def AlertPlaysUptoCardSaid : Prop := Claim7.holds Tryd.pinned (.plain (OpenSpec.upto alertPlaysSpec)) alertPlaysUptoCard

/-- THE SECOND FORM's CARD OF 'watchfirelaw07.AlertDrops'. -/
def alertDropsUptoCard : Claim7 := { stood := { row := alertDropsUptoRow, standIns := [], harness := (true, "b81fdd503646fff3942ac432e8985ae6a0b86e20da966cdbf1674d33facf5a7a"), looks := true }, kinds := [], alts := [], laidByText := true, laidKinds := [.data, .data, .data], laidTests := true, laidLooks := .later }
def AlertDropsUptoCardSaid : Prop := Claim7.holds Tryd.pinned (.plain (OpenSpec.upto alertDropsSpec)) alertDropsUptoCard

/-- THE SECOND FORM's CARD OF 'watchfirelaw07.AlertApart'. -/
def alertApartUptoCard : Claim7 := { stood := { row := alertApartUptoRow, standIns := [], harness := (true, "b81fdd503646fff3942ac432e8985ae6a0b86e20da966cdbf1674d33facf5a7a"), looks := true }, kinds := [], alts := [], laidByText := true, laidKinds := [.data, .data, .data], laidTests := true, laidLooks := .later }
def AlertApartUptoCardSaid : Prop := Claim7.holds Tryd.pinned (.plain (OpenSpec.upto alertApartSpec)) alertApartUptoCard

/-- THE SECOND FORM's CARD OF 'watchfirelaw07.AlertForks'. -/
def alertForksUptoCard : Claim7 := { stood := { row := alertForksUptoRow, standIns := [], harness := (true, "b81fdd503646fff3942ac432e8985ae6a0b86e20da966cdbf1674d33facf5a7a"), looks := true }, kinds := [], alts := [], laidByText := true, laidKinds := [.data, .data, .data], laidTests := true, laidLooks := .later }
def AlertForksUptoCardSaid : Prop := Claim7.holds Tryd.pinned (.plain (OpenSpec.upto alertForksSpec)) alertForksUptoCard

/-- THE SECOND FORM's CARD OF 'watchfirelaw07.AlertGets'. -/
def alertGetsUptoCard : Claim7 := { stood := { row := alertGetsUptoRow, standIns := [], harness := (true, "b81fdd503646fff3942ac432e8985ae6a0b86e20da966cdbf1674d33facf5a7a"), looks := true }, kinds := [], alts := [], laidByText := true, laidKinds := [.data, .data, .data], laidTests := true, laidLooks := .later }
def AlertGetsUptoCardSaid : Prop := Claim7.holds Tryd.pinned (.plain (OpenSpec.upto alertGetsSpec)) alertGetsUptoCard
end Rows
end Go.Proofs.YtokgignmdgejoaaDoor
