/-
  DERIVED. GIVEN WITH THE SEED: THE CARDS: each row of YtifkacnoiocebaaDoorRows.lean that lists a variable, with what it lists TIED to the program's text (the seventh form; the later family's looks); each row that meets fmt, with fmt's text TOLD by the authors' own Lean function (tested against real Go, not proved from fmt's source: count such statements apart). THE CARD IS WHAT COUNTS. Prove the row's statement (the work); the ties are given (YtifkacnoiocebaaDoorTie.lean); close each card by the builder's one call (the guide's Derived/Test/ToyasCard.lean, 'card_holds'). Laid BY PROGRAM, IN A SANDBOX (cutbox-door.mjs). By AI agents, Wed Nov 11 2026. No macro, syntax, notation, axiom, sorry.
-/
import Derived.Test.YtifkacnoiocebaaDoorRows
import GoSem.ClaimSeven
namespace Go.Proofs.YtifkacnoiocebaaDoor
namespace Rows

/-- THE TIED CARD OF 'wirelaw.NetReads'. -/
def netReadsCard : Claim7 := { stood := { row := netReadsRow, standIns := [], harness := (true, "3fad913cb39121d96ce9347b4ba638f74081f0f1b205751b5ba8af1a2aed5e33"), looks := false }, kinds := [], alts := [], laidByText := true, laidKinds := [.data, .pinned], laidTests := true, laidLooks := .later }
def NetReadsCardSaid : Prop := Claim7.holds Tryd.pinned (.plain (OpenSpec.ofChange netReadsSpec)) netReadsCard

/-- THE TIED CARD OF 'wirekeep.NetBack'. -/
def netBackCard : Claim7 := { stood := { row := netBackRow, standIns := [], harness := (true, "3fad913cb39121d96ce9347b4ba638f74081f0f1b205751b5ba8af1a2aed5e33"), looks := false }, kinds := [], alts := [], laidByText := true, laidKinds := [.data, .data, .data, .data, .pinned], laidTests := true, laidLooks := .later }
def NetBackCardSaid : Prop := Claim7.holds Tryd.pinned (.plain (OpenSpec.ofChange netBackSpec)) netBackCard

/-- THE SECOND FORM's CARD OF 'wirelaw.NetReads'. -/
def netReadsUptoCard : Claim7 := { stood := { row := netReadsUptoRow, standIns := [], harness := (true, "3fad913cb39121d96ce9347b4ba638f74081f0f1b205751b5ba8af1a2aed5e33"), looks := false }, kinds := [], alts := [], laidByText := true, laidKinds := [.data, .pinned], laidTests := true, laidLooks := .later }
def NetReadsUptoCardSaid : Prop := Claim7.holds Tryd.pinned (.plain (OpenSpec.upto netReadsSpec)) netReadsUptoCard

/-- THE SECOND FORM's CARD OF 'wirekeep.NetBack'. -/
def netBackUptoCard : Claim7 := { stood := { row := netBackUptoRow, standIns := [], harness := (true, "3fad913cb39121d96ce9347b4ba638f74081f0f1b205751b5ba8af1a2aed5e33"), looks := false }, kinds := [], alts := [], laidByText := true, laidKinds := [.data, .data, .data, .data, .pinned], laidTests := true, laidLooks := .later }
def NetBackUptoCardSaid : Prop := Claim7.holds Tryd.pinned (.plain (OpenSpec.upto netBackSpec)) netBackUptoCard
end Rows
end Go.Proofs.YtifkacnoiocebaaDoor
