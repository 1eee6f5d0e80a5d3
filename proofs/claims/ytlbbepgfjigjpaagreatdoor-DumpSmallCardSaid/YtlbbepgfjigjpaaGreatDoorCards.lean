/-
  DERIVED. GIVEN WITH THE SEED: THE CARDS: each row of YtlbbepgfjigjpaaGreatDoorRows.lean that lists a variable, with what it lists TIED to the program's text (the seventh form; the later family's looks); each row that meets fmt, with fmt's text TOLD by the authors' own Lean function (tested against real Go, not proved from fmt's source: count such statements apart). THE CARD IS WHAT COUNTS. Prove the row's statement (the work); the ties are given (YtlbbepgfjigjpaaGreatDoorTie.lean); close each card by the builder's one call (the guide's Derived/Test/ToyasCard.lean, 'card_holds'). Laid BY PROGRAM, IN A SANDBOX (cutbox-door.mjs). By AI agents, Wed Nov 11 2026. No macro, syntax, notation, axiom, sorry.
-/
import Derived.Test.YtlbbepgfjigjpaaGreatDoorRows
import GoSem.ClaimSeven
namespace Go.Proofs.YtlbbepgfjigjpaaGreatDoor
namespace Rows

/-- THE TIED CARD OF 'bafflelaw38.DumpSmall'. -/
def dumpSmallCard : Claim7 := { stood := { row := dumpSmallRow, standIns := [], harness := (true, "0b64c39eee7f686a4d8f132dc37a4984524f881486fa946a60f287048a5f156b"), looks := true }, kinds := [], alts := [], laidByText := true, laidKinds := [.data, .data, .data, .data, .mapped, .widerDeep, .data, .data, .sentinel, .sentinel, .data, .pinned], laidTests := true, laidLooks := .later }
def DumpSmallCardSaid : Prop := Claim7.holds Tryz.pinned (.plain (OpenSpec.ofChange dumpSmallSpec)) dumpSmallCard

/-- THE SECOND FORM's CARD OF 'bafflelaw38.DumpSmall'. -/
def dumpSmallUptoCard : Claim7 := { stood := { row := dumpSmallUptoRow, standIns := [], harness := (true, "0b64c39eee7f686a4d8f132dc37a4984524f881486fa946a60f287048a5f156b"), looks := true }, kinds := [], alts := [], laidByText := true, laidKinds := [.data, .data, .data, .data, .mapped, .widerDeep, .data, .data, .sentinel, .sentinel, .data, .pinned], laidTests := true, laidLooks := .later }
def DumpSmallUptoCardSaid : Prop := Claim7.holds Tryz.pinned (.plain (OpenSpec.upto dumpSmallSpec)) dumpSmallUptoCard
end Rows
end Go.Proofs.YtlbbepgfjigjpaaGreatDoor
