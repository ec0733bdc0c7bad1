/-
  DERIVED. GIVEN WITH THE SEED: THE CARDS: each row of YtohbafigjpoijaaDoorRows.lean that lists a variable, with what it lists TIED to the program's text (the seventh form; the later family's looks); each row that meets fmt, with fmt's text TOLD by the authors' own Lean function (tested against real Go, not proved from fmt's source: count such statements apart). THE CARD IS WHAT COUNTS. Prove the row's statement (the work); the ties are given (YtohbafigjpoijaaDoorTie.lean); close each card by the builder's one call (the guide's Derived/Test/ToyasCard.lean, 'card_holds'). Laid BY PROGRAM, IN A SANDBOX (cutbox-door.mjs). By AI agents, Wed Nov 11 2026. No macro, syntax, notation, axiom, sorry.
-/
import Derived.Test.YtohbafigjpoijaaDoorRows
import GoSem.ClaimSeven
namespace Go.Proofs.YtohbafigjpoijaaDoor
namespace Rows

/-- THE TIED CARD OF 'wirelaw.PacketSays'. -/
def packetSaysCard : Claim7 := { stood := { row := packetSaysRow, standIns := [], harness := (true, "8636436ec9bcb9a1b77313b5ea7aa2c236656dbc38d7928f756cfcb7d16af17c"), looks := false }, kinds := [], alts := [], laidByText := true, laidKinds := [.data, .data, .data], laidTests := true, laidLooks := .later }
def PacketSaysCardSaid : Prop := Claim7.holds Tryd.pinned (.plain (OpenSpec.ofChange packetSaysSpec)) packetSaysCard

/-- THE TIED CARD OF 'wirekeep.PacketBack'. -/
def packetBackCard : Claim7 := { stood := { row := packetBackRow, standIns := [], harness := (true, "8636436ec9bcb9a1b77313b5ea7aa2c236656dbc38d7928f756cfcb7d16af17c"), looks := false }, kinds := [], alts := [], laidByText := true, laidKinds := [.data, .data, .data], laidTests := true, laidLooks := .later }
def PacketBackCardSaid : Prop := Claim7.holds Tryd.pinned (.plain (OpenSpec.ofChange packetBackSpec)) packetBackCard

/-- THE TIED CARD OF 'wirelaw.MatchSays'. -/
def matchSaysCard : Claim7 := { stood := { row := matchSaysRow, standIns := [], harness := (true, "8636436ec9bcb9a1b77313b5ea7aa2c236656dbc38d7928f756cfcb7d16af17c"), looks := false }, kinds := [], alts := [], laidByText := true, laidKinds := [.data, .data, .data, .data, .pinned], laidTests := true, laidLooks := .later }
def MatchSaysCardSaid : Prop := Claim7.holds Tryd.pinned (.plain (OpenSpec.ofChange matchSaysSpec)) matchSaysCard

/-- THE TIED CARD OF 'wirekeep.MatchBack'. -/
def matchBackCard : Claim7 := { stood := { row := matchBackRow, standIns := [], harness := (true, "8636436ec9bcb9a1b77313b5ea7aa2c236656dbc38d7928f756cfcb7d16af17c"), looks := false }, kinds := [], alts := [], laidByText := true, laidKinds := [.data, .data, .data, .data, .pinned], laidTests := true, laidLooks := .later }
def MatchBackCardSaid : Prop := Claim7.holds Tryd.pinned (.plain (OpenSpec.ofChange matchBackSpec)) matchBackCard

/-- THE TIED CARD OF 'wirelaw.NetSays'. -/
def netSaysCard : Claim7 := { stood := { row := netSaysRow, standIns := [], harness := (true, "8636436ec9bcb9a1b77313b5ea7aa2c236656dbc38d7928f756cfcb7d16af17c"), looks := false }, kinds := [], alts := [], laidByText := true, laidKinds := [.data, .data, .data], laidTests := true, laidLooks := .later }
def NetSaysCardSaid : Prop := Claim7.holds Tryd.pinned (.plain (OpenSpec.ofChange netSaysSpec)) netSaysCard

/-- THE TIED CARD OF 'wirelaw.NetReads'. -/
def netReadsCard : Claim7 := { stood := { row := netReadsRow, standIns := [], harness := (true, "8636436ec9bcb9a1b77313b5ea7aa2c236656dbc38d7928f756cfcb7d16af17c"), looks := false }, kinds := [], alts := [], laidByText := true, laidKinds := [.data, .pinned], laidTests := true, laidLooks := .later }
def NetReadsCardSaid : Prop := Claim7.holds Tryd.pinned (.plain (OpenSpec.ofChange netReadsSpec)) netReadsCard

/-- THE TIED CARD OF 'wirekeep.NetBack'. -/
def netBackCard : Claim7 := { stood := { row := netBackRow, standIns := [], harness := (true, "8636436ec9bcb9a1b77313b5ea7aa2c236656dbc38d7928f756cfcb7d16af17c"), looks := false }, kinds := [], alts := [], laidByText := true, laidKinds := [.data, .data, .data, .data, .pinned], laidTests := true, laidLooks := .later }
def NetBackCardSaid : Prop := Claim7.holds Tryd.pinned (.plain (OpenSpec.ofChange netBackSpec)) netBackCard

/-- THE SECOND FORM's CARD OF 'wirelaw.PacketSays'. -/
def packetSaysUptoCard : Claim7 := { stood := { row := packetSaysUptoRow, standIns := [], harness := (true, "8636436ec9bcb9a1b77313b5ea7aa2c236656dbc38d7928f756cfcb7d16af17c"), looks := false }, kinds := [], alts := [], laidByText := true, laidKinds := [.data, .data, .data], laidTests := true, laidLooks := .later }
def PacketSaysUptoCardSaid : Prop := Claim7.holds Tryd.pinned (.plain (OpenSpec.upto packetSaysSpec)) packetSaysUptoCard

/-- THE SECOND FORM's CARD OF 'wirekeep.PacketBack'. -/
def packetBackUptoCard : Claim7 := { stood := { row := packetBackUptoRow, standIns := [], harness := (true, "8636436ec9bcb9a1b77313b5ea7aa2c236656dbc38d7928f756cfcb7d16af17c"), looks := false }, kinds := [], alts := [], laidByText := true, laidKinds := [.data, .data, .data], laidTests := true, laidLooks := .later }
def PacketBackUptoCardSaid : Prop := Claim7.holds Tryd.pinned (.plain (OpenSpec.upto packetBackSpec)) packetBackUptoCard

/-- THE SECOND FORM's CARD OF 'wirelaw.MatchSays'. -/
def matchSaysUptoCard : Claim7 := { stood := { row := matchSaysUptoRow, standIns := [], harness := (true, "8636436ec9bcb9a1b77313b5ea7aa2c236656dbc38d7928f756cfcb7d16af17c"), looks := false }, kinds := [], alts := [], laidByText := true, laidKinds := [.data, .data, .data, .data, .pinned], laidTests := true, laidLooks := .later }
def MatchSaysUptoCardSaid : Prop := Claim7.holds Tryd.pinned (.plain (OpenSpec.upto matchSaysSpec)) matchSaysUptoCard

/-- THE SECOND FORM's CARD OF 'wirekeep.MatchBack'. -/
def matchBackUptoCard : Claim7 := { stood := { row := matchBackUptoRow, standIns := [], harness := (true, "8636436ec9bcb9a1b77313b5ea7aa2c236656dbc38d7928f756cfcb7d16af17c"), looks := false }, kinds := [], alts := [], laidByText := true, laidKinds := [.data, .data, .data, .data, .pinned], laidTests := true, laidLooks := .later }
def MatchBackUptoCardSaid : Prop := Claim7.holds Tryd.pinned (.plain (OpenSpec.upto matchBackSpec)) matchBackUptoCard

/-- THE SECOND FORM's CARD OF 'wirelaw.NetSays'. -/
def netSaysUptoCard : Claim7 := { stood := { row := netSaysUptoRow, standIns := [], harness := (true, "8636436ec9bcb9a1b77313b5ea7aa2c236656dbc38d7928f756cfcb7d16af17c"), looks := false }, kinds := [], alts := [], laidByText := true, laidKinds := [.data, .data, .data], laidTests := true, laidLooks := .later }
def NetSaysUptoCardSaid : Prop := Claim7.holds Tryd.pinned (.plain (OpenSpec.upto netSaysSpec)) netSaysUptoCard

/-- THE SECOND FORM's CARD OF 'wirelaw.NetReads'. -/
def netReadsUptoCard : Claim7 := { stood := { row := netReadsUptoRow, standIns := [], harness := (true, "8636436ec9bcb9a1b77313b5ea7aa2c236656dbc38d7928f756cfcb7d16af17c"), looks := false }, kinds := [], alts := [], laidByText := true, laidKinds := [.data, .pinned], laidTests := true, laidLooks := .later }
def NetReadsUptoCardSaid : Prop := Claim7.holds Tryd.pinned (.plain (OpenSpec.upto netReadsSpec)) netReadsUptoCard

/-- THE SECOND FORM's CARD OF 'wirekeep.NetBack'. -/
def netBackUptoCard : Claim7 := { stood := { row := netBackUptoRow, standIns := [], harness := (true, "8636436ec9bcb9a1b77313b5ea7aa2c236656dbc38d7928f756cfcb7d16af17c"), looks := false }, kinds := [], alts := [], laidByText := true, laidKinds := [.data, .data, .data, .data, .pinned], laidTests := true, laidLooks := .later }
def NetBackUptoCardSaid : Prop := Claim7.holds Tryd.pinned (.plain (OpenSpec.upto netBackSpec)) netBackUptoCard
end Rows
end Go.Proofs.YtohbafigjpoijaaDoor
