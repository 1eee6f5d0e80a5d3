/-
  DERIVED. GIVEN WITH THE SEED: THE CARDS: each row of YtgfkcbflnkpogaaGreatDoorRows.lean that lists a variable, with what it lists TIED to the program's text (the seventh form; the later family's looks); each row that meets fmt, with fmt's text TOLD by the authors' own Lean function (tested against real Go, not proved from fmt's source: count such statements apart). THE CARD IS WHAT COUNTS. Prove the row's statement (the work); the ties are given (YtgfkcbflnkpogaaGreatDoorTie.lean); close each card by the builder's one call (the guide's Derived/Test/ToyasCard.lean, 'card_holds'). Laid BY PROGRAM, IN A SANDBOX (cutbox-door.mjs). By AI agents, Wed Nov 11 2026. No macro, syntax, notation, axiom, sorry.
-/
import Derived.Test.YtgfkcbflnkpogaaGreatDoorRows
import GoSem.ClaimSeven
namespace Go.Proofs.YtgfkcbflnkpogaaGreatDoor
namespace Rows

/-- THE TIED CARD OF 'bafflelaw04.SpanCounts'. -/
def spanCountsCard : Claim7 := { stood := { row := spanCountsRow, standIns := [], harness := (true, "89197d2b4f552aad6da1fa3c31253ec59ba6b72fa8682dc41e128085628c8341"), looks := true }, kinds := [], alts := [], laidByText := true, laidKinds := [.data, .data, .data, .data, .sentinel, .sentinel, .pinned], laidTests := true, laidLooks := .later }
def SpanCountsCardSaid : Prop := Claim7.holds Tryz.pinned (.plain (OpenSpec.ofChange spanCountsSpec)) spanCountsCard

/-- THE TIED CARD OF 'bafflelaw04.SpanTwo'. -/
def spanTwoCard : Claim7 := { stood := { row := spanTwoRow, standIns := [], harness := (true, "89197d2b4f552aad6da1fa3c31253ec59ba6b72fa8682dc41e128085628c8341"), looks := true }, kinds := [], alts := [], laidByText := true, laidKinds := [.data, .data, .data, .data, .sentinel, .sentinel, .pinned], laidTests := true, laidLooks := .later }
def SpanTwoCardSaid : Prop := Claim7.holds Tryz.pinned (.plain (OpenSpec.ofChange spanTwoSpec)) spanTwoCard

/-- THE TIED CARD OF 'bafflelaw04.SpanWrong'. -/
def spanWrongCard : Claim7 := { stood := { row := spanWrongRow, standIns := [], harness := (true, "89197d2b4f552aad6da1fa3c31253ec59ba6b72fa8682dc41e128085628c8341"), looks := true }, kinds := [], alts := [], laidByText := true, laidKinds := [.data, .data, .data, .data, .sentinel, .sentinel, .pinned], laidTests := true, laidLooks := .later }
def SpanWrongCardSaid : Prop := Claim7.holds Tryz.pinned (.plain (OpenSpec.ofChange spanWrongSpec)) spanWrongCard

/-- THE TIED CARD OF 'bafflelaw04.SpanNext'. -/
def spanNextCard : Claim7 := { stood := { row := spanNextRow, standIns := [], harness := (true, "89197d2b4f552aad6da1fa3c31253ec59ba6b72fa8682dc41e128085628c8341"), looks := true }, kinds := [], alts := [], laidByText := true, laidKinds := [.data, .data, .data, .data, .sentinel, .sentinel, .pinned], laidTests := true, laidLooks := .later }
def SpanNextCardSaid : Prop := Claim7.holds Tryz.pinned (.plain (OpenSpec.ofChange spanNextSpec)) spanNextCard

/-- THE TIED CARD OF 'bafflelaw04.SpanAlgebra'. -/
def spanAlgebraCard : Claim7 := { stood := { row := spanAlgebraRow, standIns := [], harness := (true, "89197d2b4f552aad6da1fa3c31253ec59ba6b72fa8682dc41e128085628c8341"), looks := true }, kinds := [], alts := [], laidByText := true, laidKinds := [.data, .data, .data, .data, .sentinel, .sentinel, .pinned], laidTests := true, laidLooks := .later }
def SpanAlgebraCardSaid : Prop := Claim7.holds Tryz.pinned (.plain (OpenSpec.ofChange spanAlgebraSpec)) spanAlgebraCard

/-- THE TIED CARD OF 'bafflelaw04.SpanTexts'. -/
def spanTextsCard : Claim7 := { stood := { row := spanTextsRow, standIns := [], harness := (true, "89197d2b4f552aad6da1fa3c31253ec59ba6b72fa8682dc41e128085628c8341"), looks := true }, kinds := [], alts := [], laidByText := true, laidKinds := [.data, .data, .data, .data, .sentinel, .sentinel, .pinned], laidTests := true, laidLooks := .later }
def SpanTextsCardSaid : Prop := Claim7.holds Tryz.pinned (.plain (OpenSpec.ofChange spanTextsSpec)) spanTextsCard

/-- THE TIED CARD OF 'bafflelaw04.SpanBack'. -/
def spanBackCard : Claim7 := { stood := { row := spanBackRow, standIns := [], harness := (true, "89197d2b4f552aad6da1fa3c31253ec59ba6b72fa8682dc41e128085628c8341"), looks := true }, kinds := [], alts := [], laidByText := true, laidKinds := [.data, .data, .data, .data, .sentinel, .sentinel, .pinned], laidTests := true, laidLooks := .later }
def SpanBackCardSaid : Prop := Claim7.holds Tryz.pinned (.plain (OpenSpec.ofChange spanBackSpec)) spanBackCard

/-- THE TIED CARD OF 'bafflelaw04.SpanSmall'. -/
def spanSmallCard : Claim7 := { stood := { row := spanSmallRow, standIns := [], harness := (true, "89197d2b4f552aad6da1fa3c31253ec59ba6b72fa8682dc41e128085628c8341"), looks := true }, kinds := [], alts := [], laidByText := true, laidKinds := [.data, .data, .data, .data, .sentinel, .sentinel, .pinned], laidTests := true, laidLooks := .later }
def SpanSmallCardSaid : Prop := Claim7.holds Tryz.pinned (.plain (OpenSpec.ofChange spanSmallSpec)) spanSmallCard

/-- THE SECOND FORM's CARD OF 'bafflelaw04.SpanCounts'. -/
def spanCountsUptoCard : Claim7 := { stood := { row := spanCountsUptoRow, standIns := [], harness := (true, "89197d2b4f552aad6da1fa3c31253ec59ba6b72fa8682dc41e128085628c8341"), looks := true }, kinds := [], alts := [], laidByText := true, laidKinds := [.data, .data, .data, .data, .sentinel, .sentinel, .pinned], laidTests := true, laidLooks := .later }
def SpanCountsUptoCardSaid : Prop := Claim7.holds Tryz.pinned (.plain (OpenSpec.upto spanCountsSpec)) spanCountsUptoCard

/-- THE SECOND FORM's CARD OF 'bafflelaw04.SpanTwo'. -/
def spanTwoUptoCard : Claim7 := { stood := { row := spanTwoUptoRow, standIns := [], harness := (true, "89197d2b4f552aad6da1fa3c31253ec59ba6b72fa8682dc41e128085628c8341"), looks := true }, kinds := [], alts := [], laidByText := true, laidKinds := [.data, .data, .data, .data, .sentinel, .sentinel, .pinned], laidTests := true, laidLooks := .later }
def SpanTwoUptoCardSaid : Prop := Claim7.holds Tryz.pinned (.plain (OpenSpec.upto spanTwoSpec)) spanTwoUptoCard

/-- THE SECOND FORM's CARD OF 'bafflelaw04.SpanWrong'. -/
def spanWrongUptoCard : Claim7 := { stood := { row := spanWrongUptoRow, standIns := [], harness := (true, "89197d2b4f552aad6da1fa3c31253ec59ba6b72fa8682dc41e128085628c8341"), looks := true }, kinds := [], alts := [], laidByText := true, laidKinds := [.data, .data, .data, .data, .sentinel, .sentinel, .pinned], laidTests := true, laidLooks := .later }
def SpanWrongUptoCardSaid : Prop := Claim7.holds Tryz.pinned (.plain (OpenSpec.upto spanWrongSpec)) spanWrongUptoCard

/-- THE SECOND FORM's CARD OF 'bafflelaw04.SpanNext'. -/
def spanNextUptoCard : Claim7 := { stood := { row := spanNextUptoRow, standIns := [], harness := (true, "89197d2b4f552aad6da1fa3c31253ec59ba6b72fa8682dc41e128085628c8341"), looks := true }, kinds := [], alts := [], laidByText := true, laidKinds := [.data, .data, .data, .data, .sentinel, .sentinel, .pinned], laidTests := true, laidLooks := .later }
def SpanNextUptoCardSaid : Prop := Claim7.holds Tryz.pinned (.plain (OpenSpec.upto spanNextSpec)) spanNextUptoCard

/-- THE SECOND FORM's CARD OF 'bafflelaw04.SpanAlgebra'. -/
def spanAlgebraUptoCard : Claim7 := { stood := { row := spanAlgebraUptoRow, standIns := [], harness := (true, "89197d2b4f552aad6da1fa3c31253ec59ba6b72fa8682dc41e128085628c8341"), looks := true }, kinds := [], alts := [], laidByText := true, laidKinds := [.data, .data, .data, .data, .sentinel, .sentinel, .pinned], laidTests := true, laidLooks := .later }
def SpanAlgebraUptoCardSaid : Prop := Claim7.holds Tryz.pinned (.plain (OpenSpec.upto spanAlgebraSpec)) spanAlgebraUptoCard

/-- THE SECOND FORM's CARD OF 'bafflelaw04.SpanTexts'. -/
def spanTextsUptoCard : Claim7 := { stood := { row := spanTextsUptoRow, standIns := [], harness := (true, "89197d2b4f552aad6da1fa3c31253ec59ba6b72fa8682dc41e128085628c8341"), looks := true }, kinds := [], alts := [], laidByText := true, laidKinds := [.data, .data, .data, .data, .sentinel, .sentinel, .pinned], laidTests := true, laidLooks := .later }
def SpanTextsUptoCardSaid : Prop := Claim7.holds Tryz.pinned (.plain (OpenSpec.upto spanTextsSpec)) spanTextsUptoCard

/-- THE SECOND FORM's CARD OF 'bafflelaw04.SpanBack'. -/
def spanBackUptoCard : Claim7 := { stood := { row := spanBackUptoRow, standIns := [], harness := (true, "89197d2b4f552aad6da1fa3c31253ec59ba6b72fa8682dc41e128085628c8341"), looks := true }, kinds := [], alts := [], laidByText := true, laidKinds := [.data, .data, .data, .data, .sentinel, .sentinel, .pinned], laidTests := true, laidLooks := .later }
def SpanBackUptoCardSaid : Prop := Claim7.holds Tryz.pinned (.plain (OpenSpec.upto spanBackSpec)) spanBackUptoCard

/-- THE SECOND FORM's CARD OF 'bafflelaw04.SpanSmall'. -/
def spanSmallUptoCard : Claim7 := { stood := { row := spanSmallUptoRow, standIns := [], harness := (true, "89197d2b4f552aad6da1fa3c31253ec59ba6b72fa8682dc41e128085628c8341"), looks := true }, kinds := [], alts := [], laidByText := true, laidKinds := [.data, .data, .data, .data, .sentinel, .sentinel, .pinned], laidTests := true, laidLooks := .later }
def SpanSmallUptoCardSaid : Prop := Claim7.holds Tryz.pinned (.plain (OpenSpec.upto spanSmallSpec)) spanSmallUptoCard
end Rows
end Go.Proofs.YtgfkcbflnkpogaaGreatDoor
