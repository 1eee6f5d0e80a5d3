/-
  DERIVED. GIVEN WITH THE SEED: THE CARDS: each row of YtdiiicnjbgimmaaGreatDoorRows.lean that lists a variable, with what it lists TIED to the program's text (the seventh form; the later family's looks); each row that meets fmt, with fmt's text TOLD by the authors' own Lean function (tested against real Go, not proved from fmt's source: count such statements apart). THE CARD IS WHAT COUNTS. Prove the row's statement (the work); the ties are given (YtdiiicnjbgimmaaGreatDoorTie.lean); close each card by the builder's one call (the guide's Derived/Test/ToyasCard.lean, 'card_holds'). Laid BY PROGRAM, IN A SANDBOX (cutbox-door.mjs). By AI agents, Wed Nov 11 2026. No macro, syntax, notation, axiom, sorry.
-/
import Derived.Test.YtdiiicnjbgimmaaGreatDoorRows
import GoSem.ClaimSeven
namespace Go.Proofs.YtdiiicnjbgimmaaGreatDoor
namespace Rows

/-- THE TIED CARD OF 'bafflelaw03.AddrSmall'. -/
def addrSmallCard : Claim7 := { stood := { row := addrSmallRow, standIns := [], harness := (true, "4b180b3e12fefc81255282a6ea79a887e14534f70dc7e0995576a92c31f1cc9b"), looks := true }, kinds := [], alts := [], laidByText := true, laidKinds := [.data, .data, .data, .data, .sentinel, .sentinel, .pinned], laidTests := true, laidLooks := .later }
def AddrSmallCardSaid : Prop := Claim7.holds Tryz.pinned (.plain (OpenSpec.ofChange addrSmallSpec)) addrSmallCard

/-- THE SECOND FORM's CARD OF 'bafflelaw03.AddrSmall'. -/
def addrSmallUptoCard : Claim7 := { stood := { row := addrSmallUptoRow, standIns := [], harness := (true, "4b180b3e12fefc81255282a6ea79a887e14534f70dc7e0995576a92c31f1cc9b"), looks := true }, kinds := [], alts := [], laidByText := true, laidKinds := [.data, .data, .data, .data, .sentinel, .sentinel, .pinned], laidTests := true, laidLooks := .later }
def AddrSmallUptoCardSaid : Prop := Claim7.holds Tryz.pinned (.plain (OpenSpec.upto addrSmallSpec)) addrSmallUptoCard
end Rows
end Go.Proofs.YtdiiicnjbgimmaaGreatDoor
