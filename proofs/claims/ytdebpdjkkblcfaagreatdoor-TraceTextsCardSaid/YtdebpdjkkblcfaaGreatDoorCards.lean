/-
  DERIVED. GIVEN WITH THE SEED: THE CARDS: each row of YtdebpdjkkblcfaaGreatDoorRows.lean that lists a variable, with what it lists TIED to the program's text (the seventh form; the later family's looks); each row that meets fmt, with fmt's text TOLD by the authors' own Lean function (tested against real Go, not proved from fmt's source: count such statements apart). THE CARD IS WHAT COUNTS. Prove the row's statement (the work); the ties are given (YtdebpdjkkblcfaaGreatDoorTie.lean); close each card by the builder's one call (the guide's Derived/Test/ToyasCard.lean, 'card_holds'). Laid BY PROGRAM, IN A SANDBOX (cutbox-door.mjs). By AI agents, Wed Nov 11 2026. No macro, syntax, notation, axiom, sorry.
-/
import Derived.Test.YtdebpdjkkblcfaaGreatDoorRows
import GoSem.ClaimSeven
namespace Go.Proofs.YtdebpdjkkblcfaaGreatDoor
namespace Rows

/-- THE TIED CARD OF 'bafflelaw41.TraceTexts'. -/
def traceTextsCard : Claim7 := { stood := { row := traceTextsRow, standIns := [], harness := (true, "f70bbd0e192ae34371baeef501b57f05bf214ed67328c015892961211e6572ea"), looks := true }, kinds := [], alts := [], laidByText := true, laidKinds := [.data, .data, .data, .data, .widerDeep, .sentinel, .sentinel, .data, .pinned], laidTests := true, laidLooks := .later }
def TraceTextsCardSaid : Prop := Claim7.holds Tryz.pinned (.plain (OpenSpec.ofChange traceTextsSpec)) traceTextsCard

/-- THE TIED CARD OF 'bafflelaw41.TraceTells'. -/
def traceTellsCard : Claim7 := { stood := { row := traceTellsRow, standIns := [], harness := (true, "f70bbd0e192ae34371baeef501b57f05bf214ed67328c015892961211e6572ea"), looks := true }, kinds := [], alts := [], laidByText := true, laidKinds := [.data, .data, .data, .data, .widerDeep, .sentinel, .sentinel, .data, .pinned], laidTests := true, laidLooks := .later }
def TraceTellsCardSaid : Prop := Claim7.holds Tryz.pinned (.plain (OpenSpec.ofChange traceTellsSpec)) traceTellsCard

/-- THE TIED CARD OF 'bafflelaw41.TraceSmall'. -/
def traceSmallCard : Claim7 := { stood := { row := traceSmallRow, standIns := [], harness := (true, "f70bbd0e192ae34371baeef501b57f05bf214ed67328c015892961211e6572ea"), looks := true }, kinds := [], alts := [], laidByText := true, laidKinds := [.data, .data, .data, .data, .widerDeep, .sentinel, .sentinel, .data, .pinned], laidTests := true, laidLooks := .later }
def TraceSmallCardSaid : Prop := Claim7.holds Tryz.pinned (.plain (OpenSpec.ofChange traceSmallSpec)) traceSmallCard

/-- THE SECOND FORM's CARD OF 'bafflelaw41.TraceTexts'. -/
def traceTextsUptoCard : Claim7 := { stood := { row := traceTextsUptoRow, standIns := [], harness := (true, "f70bbd0e192ae34371baeef501b57f05bf214ed67328c015892961211e6572ea"), looks := true }, kinds := [], alts := [], laidByText := true, laidKinds := [.data, .data, .data, .data, .widerDeep, .sentinel, .sentinel, .data, .pinned], laidTests := true, laidLooks := .later }
def TraceTextsUptoCardSaid : Prop := Claim7.holds Tryz.pinned (.plain (OpenSpec.upto traceTextsSpec)) traceTextsUptoCard

/-- THE SECOND FORM's CARD OF 'bafflelaw41.TraceTells'. -/
def traceTellsUptoCard : Claim7 := { stood := { row := traceTellsUptoRow, standIns := [], harness := (true, "f70bbd0e192ae34371baeef501b57f05bf214ed67328c015892961211e6572ea"), looks := true }, kinds := [], alts := [], laidByText := true, laidKinds := [.data, .data, .data, .data, .widerDeep, .sentinel, .sentinel, .data, .pinned], laidTests := true, laidLooks := .later }
def TraceTellsUptoCardSaid : Prop := Claim7.holds Tryz.pinned (.plain (OpenSpec.upto traceTellsSpec)) traceTellsUptoCard

/-- THE SECOND FORM's CARD OF 'bafflelaw41.TraceSmall'. -/
def traceSmallUptoCard : Claim7 := { stood := { row := traceSmallUptoRow, standIns := [], harness := (true, "f70bbd0e192ae34371baeef501b57f05bf214ed67328c015892961211e6572ea"), looks := true }, kinds := [], alts := [], laidByText := true, laidKinds := [.data, .data, .data, .data, .widerDeep, .sentinel, .sentinel, .data, .pinned], laidTests := true, laidLooks := .later }
def TraceSmallUptoCardSaid : Prop := Claim7.holds Tryz.pinned (.plain (OpenSpec.upto traceSmallSpec)) traceSmallUptoCard
end Rows
end Go.Proofs.YtdebpdjkkblcfaaGreatDoor
