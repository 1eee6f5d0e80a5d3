/-
  DERIVED. GIVEN WITH THE SEED: THE CARDS: each row of YtbojbnpafoaljaaDoorRows.lean that lists a variable, with what it lists TIED to the program's text (the seventh form; the later family's looks); each row that meets fmt, with fmt's text TOLD by the authors' own Lean function (tested against real Go, not proved from fmt's source: count such statements apart). THE CARD IS WHAT COUNTS. Prove the row's statement (the work); the ties are given (YtbojbnpafoaljaaDoorTie.lean); close each card by the builder's one call (the guide's Derived/Test/ToyasCard.lean, 'card_holds'). Laid BY PROGRAM, IN A SANDBOX (cutbox-door.mjs). By AI agents, Wed Nov 11 2026. No macro, syntax, notation, axiom, sorry.
-/
import Derived.Test.YtbojbnpafoaljaaDoorRows
import GoSem.ClaimSeven
namespace Go.Proofs.YtbojbnpafoaljaaDoor
namespace Rows

/-- THE TIED CARD OF 'bafflelaw38.DumpSums'. -/
def dumpSumsCard : Claim7 := { stood := { row := dumpSumsRow, standIns := [], harness := (true, "5654c5ef3606e01fafabb2a93bee5af4cbb441611bb387e69757e3589b991805"), looks := true }, kinds := [], alts := [], laidByText := true, laidKinds := [.data, .data, .data, .data, .widerDeep, .data, .sentinel, .sentinel, .data, .pinned], laidTests := true, laidLooks := .later }
def DumpSumsCardSaid : Prop := Claim7.holds Tryd.pinned (.plain (OpenSpec.ofChange dumpSumsSpec)) dumpSumsCard

/-- THE SECOND FORM's CARD OF 'bafflelaw38.DumpSums'. -/
def dumpSumsUptoCard : Claim7 := { stood := { row := dumpSumsUptoRow, standIns := [], harness := (true, "5654c5ef3606e01fafabb2a93bee5af4cbb441611bb387e69757e3589b991805"), looks := true }, kinds := [], alts := [], laidByText := true, laidKinds := [.data, .data, .data, .data, .widerDeep, .data, .sentinel, .sentinel, .data, .pinned], laidTests := true, laidLooks := .later }
def DumpSumsUptoCardSaid : Prop := Claim7.holds Tryd.pinned (.plain (OpenSpec.upto dumpSumsSpec)) dumpSumsUptoCard
end Rows
end Go.Proofs.YtbojbnpafoaljaaDoor
