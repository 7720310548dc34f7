/-
  DERIVED. GIVEN WITH THE SEED: THE CARDS: each row of YtjdgmnaemopfdaaDoorRows.lean that lists a variable, with what it lists TIED to the program's text (the seventh form; the later family's looks); each row that meets fmt, with fmt's text TOLD by the authors' own Lean function (tested against real Go, not proved from fmt's source: count such statements apart). THE CARD IS WHAT COUNTS. Prove the row's statement (the work); the ties are given (YtjdgmnaemopfdaaDoorTie.lean); close each card by the builder's one call (the guide's Derived/Test/ToyasCard.lean, 'card_holds'). Laid BY PROGRAM, IN A SANDBOX (cutbox-door.mjs). By AI agents, Wed Nov 11 2026. No macro, syntax, notation, axiom, sorry.
-/
import Derived.Test.YtjdgmnaemopfdaaDoorRows
import GoSem.ClaimSeven
namespace Go.Proofs.YtjdgmnaemopfdaaDoor
namespace Rows

/-- THE TIED CARD OF 'watchfirelaw01.BenPuts'. -/
def benPutsCard : Claim7 := { stood := { row := benPutsRow, standIns := [], harness := (true, "e3a6ddffbb677e14eb4678deb13f7e6f7980d73d26588052db94f408af40c398"), looks := true }, kinds := [], alts := [], laidByText := true, laidKinds := [.data, .data, .data, .sentinel, .sentinel], laidTests := true, laidLooks := .later }
def BenPutsCardSaid : Prop := Claim7.holds Tryd.pinned (.plain (OpenSpec.ofChange benPutsSpec)) benPutsCard

/-- THE TIED CARD OF 'watchfirelaw01.BenOnly'. -/
def benOnlyCard : Claim7 := { stood := { row := benOnlyRow, standIns := [], harness := (true, "e3a6ddffbb677e14eb4678deb13f7e6f7980d73d26588052db94f408af40c398"), looks := true }, kinds := [], alts := [], laidByText := true, laidKinds := [.data, .data, .data, .sentinel, .sentinel], laidTests := true, laidLooks := .later }
def BenOnlyCardSaid : Prop := Claim7.holds Tryd.pinned (.plain (OpenSpec.ofChange benOnlySpec)) benOnlyCard

/-- THE TIED CARD OF 'watchfirelaw01.BenReads'. -/
def benReadsCard : Claim7 := { stood := { row := benReadsRow, standIns := [], harness := (true, "e3a6ddffbb677e14eb4678deb13f7e6f7980d73d26588052db94f408af40c398"), looks := true }, kinds := [], alts := [], laidByText := true, laidKinds := [.data, .data, .data, .sentinel, .sentinel], laidTests := true, laidLooks := .later }
def BenReadsCardSaid : Prop := Claim7.holds Tryd.pinned (.plain (OpenSpec.ofChange benReadsSpec)) benReadsCard

/-- THE TIED CARD OF 'watchfirelaw01.BenStops'. -/
def benStopsCard : Claim7 := { stood := { row := benStopsRow, standIns := [], harness := (true, "e3a6ddffbb677e14eb4678deb13f7e6f7980d73d26588052db94f408af40c398"), looks := true }, kinds := [], alts := [], laidByText := true, laidKinds := [.data, .data, .data, .sentinel, .sentinel], laidTests := true, laidLooks := .later }
def BenStopsCardSaid : Prop := Claim7.holds Tryd.pinned (.plain (OpenSpec.ofChange benStopsSpec)) benStopsCard

/-- THE TIED CARD OF 'watchfirelaw13.PacketPuts'. -/
def packetPutsCard : Claim7 := { stood := { row := packetPutsRow, standIns := [], harness := (true, "e3a6ddffbb677e14eb4678deb13f7e6f7980d73d26588052db94f408af40c398"), looks := true }, kinds := [], alts := [], laidByText := true, laidKinds := [.data, .data, .data, .sentinel, .sentinel], laidTests := true, laidLooks := .later }
def PacketPutsCardSaid : Prop := Claim7.holds Tryd.pinned (.plain (OpenSpec.ofChange packetPutsSpec)) packetPutsCard

/-- THE TIED CARD OF 'watchfirelaw13.PacketReads'. -/
def packetReadsCard : Claim7 := { stood := { row := packetReadsRow, standIns := [], harness := (true, "e3a6ddffbb677e14eb4678deb13f7e6f7980d73d26588052db94f408af40c398"), looks := true }, kinds := [], alts := [], laidByText := true, laidKinds := [.data, .data, .data, .sentinel, .sentinel], laidTests := true, laidLooks := .later }
def PacketReadsCardSaid : Prop := Claim7.holds Tryd.pinned (.plain (OpenSpec.ofChange packetReadsSpec)) packetReadsCard

/-- THE TIED CARD OF 'watchfirelaw13.PacketMore'. -/
def packetMoreCard : Claim7 := { stood := { row := packetMoreRow, standIns := [], harness := (true, "e3a6ddffbb677e14eb4678deb13f7e6f7980d73d26588052db94f408af40c398"), looks := true }, kinds := [], alts := [], laidByText := true, laidKinds := [.data, .data, .data, .sentinel, .sentinel], laidTests := true, laidLooks := .later }
def PacketMoreCardSaid : Prop := Claim7.holds Tryd.pinned (.plain (OpenSpec.ofChange packetMoreSpec)) packetMoreCard

/-- THE TIED CARD OF 'watchfirelaw13.PacketBack'. -/
def packetBackCard : Claim7 := { stood := { row := packetBackRow, standIns := [], harness := (true, "e3a6ddffbb677e14eb4678deb13f7e6f7980d73d26588052db94f408af40c398"), looks := true }, kinds := [], alts := [], laidByText := true, laidKinds := [.data, .data, .data, .sentinel, .sentinel], laidTests := true, laidLooks := .later }
def PacketBackCardSaid : Prop := Claim7.holds Tryd.pinned (.plain (OpenSpec.ofChange packetBackSpec)) packetBackCard

/-- THE TIED CARD OF 'watchfirelaw13.PacketSames'. -/
def packetSamesCard : Claim7 := { stood := { row := packetSamesRow, standIns := [], harness := (true, "e3a6ddffbb677e14eb4678deb13f7e6f7980d73d26588052db94f408af40c398"), looks := true }, kinds := [], alts := [], laidByText := true, laidKinds := [.data, .data, .data, .sentinel, .sentinel], laidTests := true, laidLooks := .later }
def PacketSamesCardSaid : Prop := Claim7.holds Tryd.pinned (.plain (OpenSpec.ofChange packetSamesSpec)) packetSamesCard

/-- THE SECOND FORM's CARD OF 'watchfirelaw01.BenPuts'. -/
def benPutsUptoCard : Claim7 := { stood := { row := benPutsUptoRow, standIns := [], harness := (true, "e3a6ddffbb677e14eb4678deb13f7e6f7980d73d26588052db94f408af40c398"), looks := true }, kinds := [], alts := [], laidByText := true, laidKinds := [.data, .data, .data, .sentinel, .sentinel], laidTests := true, laidLooks := .later }
def BenPutsUptoCardSaid : Prop := Claim7.holds Tryd.pinned (.plain (OpenSpec.upto benPutsSpec)) benPutsUptoCard

/-- THE SECOND FORM's CARD OF 'watchfirelaw01.BenOnly'. -/
def benOnlyUptoCard : Claim7 := { stood := { row := benOnlyUptoRow, standIns := [], harness := (true, "e3a6ddffbb677e14eb4678deb13f7e6f7980d73d26588052db94f408af40c398"), looks := true }, kinds := [], alts := [], laidByText := true, laidKinds := [.data, .data, .data, .sentinel, .sentinel], laidTests := true, laidLooks := .later }
def BenOnlyUptoCardSaid : Prop := Claim7.holds Tryd.pinned (.plain (OpenSpec.upto benOnlySpec)) benOnlyUptoCard

/-- THE SECOND FORM's CARD OF 'watchfirelaw01.BenReads'. -/
def benReadsUptoCard : Claim7 := { stood := { row := benReadsUptoRow, standIns := [], harness := (true, "e3a6ddffbb677e14eb4678deb13f7e6f7980d73d26588052db94f408af40c398"), looks := true }, kinds := [], alts := [], laidByText := true, laidKinds := [.data, .data, .data, .sentinel, .sentinel], laidTests := true, laidLooks := .later }
def BenReadsUptoCardSaid : Prop := Claim7.holds Tryd.pinned (.plain (OpenSpec.upto benReadsSpec)) benReadsUptoCard

/-- THE SECOND FORM's CARD OF 'watchfirelaw01.BenStops'. -/
def benStopsUptoCard : Claim7 := { stood := { row := benStopsUptoRow, standIns := [], harness := (true, "e3a6ddffbb677e14eb4678deb13f7e6f7980d73d26588052db94f408af40c398"), looks := true }, kinds := [], alts := [], laidByText := true, laidKinds := [.data, .data, .data, .sentinel, .sentinel], laidTests := true, laidLooks := .later }
def BenStopsUptoCardSaid : Prop := Claim7.holds Tryd.pinned (.plain (OpenSpec.upto benStopsSpec)) benStopsUptoCard

/-- THE SECOND FORM's CARD OF 'watchfirelaw13.PacketPuts'. -/
def packetPutsUptoCard : Claim7 := { stood := { row := packetPutsUptoRow, standIns := [], harness := (true, "e3a6ddffbb677e14eb4678deb13f7e6f7980d73d26588052db94f408af40c398"), looks := true }, kinds := [], alts := [], laidByText := true, laidKinds := [.data, .data, .data, .sentinel, .sentinel], laidTests := true, laidLooks := .later }
def PacketPutsUptoCardSaid : Prop := Claim7.holds Tryd.pinned (.plain (OpenSpec.upto packetPutsSpec)) packetPutsUptoCard

/-- THE SECOND FORM's CARD OF 'watchfirelaw13.PacketReads'. -/
def packetReadsUptoCard : Claim7 := { stood := { row := packetReadsUptoRow, standIns := [], harness := (true, "e3a6ddffbb677e14eb4678deb13f7e6f7980d73d26588052db94f408af40c398"), looks := true }, kinds := [], alts := [], laidByText := true, laidKinds := [.data, .data, .data, .sentinel, .sentinel], laidTests := true, laidLooks := .later }
def PacketReadsUptoCardSaid : Prop := Claim7.holds Tryd.pinned (.plain (OpenSpec.upto packetReadsSpec)) packetReadsUptoCard

/-- THE SECOND FORM's CARD OF 'watchfirelaw13.PacketMore'. -/
def packetMoreUptoCard : Claim7 := { stood := { row := packetMoreUptoRow, standIns := [], harness := (true, "e3a6ddffbb677e14eb4678deb13f7e6f7980d73d26588052db94f408af40c398"), looks := true }, kinds := [], alts := [], laidByText := true, laidKinds := [.data, .data, .data, .sentinel, .sentinel], laidTests := true, laidLooks := .later }
def PacketMoreUptoCardSaid : Prop := Claim7.holds Tryd.pinned (.plain (OpenSpec.upto packetMoreSpec)) packetMoreUptoCard

/-- THE SECOND FORM's CARD OF 'watchfirelaw13.PacketBack'. -/
def packetBackUptoCard : Claim7 := { stood := { row := packetBackUptoRow, standIns := [], harness := (true, "e3a6ddffbb677e14eb4678deb13f7e6f7980d73d26588052db94f408af40c398"), looks := true }, kinds := [], alts := [], laidByText := true, laidKinds := [.data, .data, .data, .sentinel, .sentinel], laidTests := true, laidLooks := .later }
def PacketBackUptoCardSaid : Prop := Claim7.holds Tryd.pinned (.plain (OpenSpec.upto packetBackSpec)) packetBackUptoCard

/-- THE SECOND FORM's CARD OF 'watchfirelaw13.PacketSames'. -/
def packetSamesUptoCard : Claim7 := { stood := { row := packetSamesUptoRow, standIns := [], harness := (true, "e3a6ddffbb677e14eb4678deb13f7e6f7980d73d26588052db94f408af40c398"), looks := true }, kinds := [], alts := [], laidByText := true, laidKinds := [.data, .data, .data, .sentinel, .sentinel], laidTests := true, laidLooks := .later }
def PacketSamesUptoCardSaid : Prop := Claim7.holds Tryd.pinned (.plain (OpenSpec.upto packetSamesSpec)) packetSamesUptoCard
end Rows
end Go.Proofs.YtjdgmnaemopfdaaDoor
