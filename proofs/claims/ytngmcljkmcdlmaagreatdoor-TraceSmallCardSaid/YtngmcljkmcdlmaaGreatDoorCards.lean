/-
  DERIVED. GIVEN WITH THE SEED: THE CARDS: each row of YtngmcljkmcdlmaaGreatDoorRows.lean that lists a variable, with what it lists TIED to the program's text (the seventh form; the later family's looks); each row that meets fmt, with fmt's text TOLD by the authors' own Lean function (tested against real Go, not proved from fmt's source: count such statements apart). THE CARD IS WHAT COUNTS. Prove the row's statement (the work); the ties are given (YtngmcljkmcdlmaaGreatDoorTie.lean); close each card by the builder's one call (the guide's Derived/Test/ToyasCard.lean, 'card_holds'). Laid BY PROGRAM, IN A SANDBOX (cutbox-door.mjs). By AI agents, Wed Nov 11 2026. No macro, syntax, notation, axiom, sorry.
-/
import Derived.Test.YtngmcljkmcdlmaaGreatDoorRows
import GoSem.ClaimSeven
namespace Go.Proofs.YtngmcljkmcdlmaaGreatDoor
namespace Rows

/-- THE TIED CARD OF 'bafflelaw41.TraceSmall'. -/
def traceSmallCard : Claim7 := { stood := { row := traceSmallRow, standIns := [], harness := (true, "8a7fdb6a09226df8885f98461b3867b8fc84dc84fb45848e443ec8c284507f39"), looks := true }, kinds := [], alts := [], laidByText := true, laidKinds := [.data, .data, .data, .data, .widerDeep, .sentinel, .sentinel, .data, .pinned], laidTests := true, laidLooks := .later }
def TraceSmallCardSaid : Prop := Claim7.holds Tryz.pinned (.plain (OpenSpec.ofChange traceSmallSpec)) traceSmallCard

/-- THE SECOND FORM's CARD OF 'bafflelaw41.TraceSmall'. -/
def traceSmallUptoCard : Claim7 := { stood := { row := traceSmallUptoRow, standIns := [], harness := (true, "8a7fdb6a09226df8885f98461b3867b8fc84dc84fb45848e443ec8c284507f39"), looks := true }, kinds := [], alts := [], laidByText := true, laidKinds := [.data, .data, .data, .data, .widerDeep, .sentinel, .sentinel, .data, .pinned], laidTests := true, laidLooks := .later }
def TraceSmallUptoCardSaid : Prop := Claim7.holds Tryz.pinned (.plain (OpenSpec.upto traceSmallSpec)) traceSmallUptoCard
end Rows
end Go.Proofs.YtngmcljkmcdlmaaGreatDoor
