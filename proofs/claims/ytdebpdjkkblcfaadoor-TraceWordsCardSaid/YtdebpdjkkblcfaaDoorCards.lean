/-
  DERIVED. GIVEN WITH THE SEED: THE CARDS: each row of YtdebpdjkkblcfaaDoorRows.lean that lists a variable, with what it lists TIED to the program's text (the seventh form; the later family's looks); each row that meets fmt, with fmt's text TOLD by the authors' own Lean function (tested against real Go, not proved from fmt's source: count such statements apart). THE CARD IS WHAT COUNTS. Prove the row's statement (the work); the ties are given (YtdebpdjkkblcfaaDoorTie.lean); close each card by the builder's one call (the guide's Derived/Test/ToyasCard.lean, 'card_holds'). Laid BY PROGRAM, IN A SANDBOX (cutbox-door.mjs). By AI agents, Wed Nov 11 2026. No macro, syntax, notation, axiom, sorry.
-/
import Derived.Test.YtdebpdjkkblcfaaDoorRows
import GoSem.ClaimSeven
namespace Go.Proofs.YtdebpdjkkblcfaaDoor
namespace Rows

/-- THE TIED CARD OF 'bafflelaw41.TraceBack'. -/
def traceBackCard : Claim7 := { stood := { row := traceBackRow, standIns := [], harness := (true, "f1938d8dc0cdfeb1b8f7468a83730d1cc0bbb6e442e599d82429c76520532691"), looks := true }, kinds := [], alts := [], laidByText := true, laidKinds := [.data, .data, .data, .data, .widerDeep, .sentinel, .sentinel, .data, .pinned], laidTests := true, laidLooks := .later }
def TraceBackCardSaid : Prop := Claim7.holds Tryd.pinned (.plain (OpenSpec.ofChange traceBackSpec)) traceBackCard

/-- THE TIED CARD OF 'bafflelaw41.TraceWords'. -/
def traceWordsCard : Claim7 := { stood := { row := traceWordsRow, standIns := [], harness := (true, "f1938d8dc0cdfeb1b8f7468a83730d1cc0bbb6e442e599d82429c76520532691"), looks := true }, kinds := [], alts := [], laidByText := true, laidKinds := [.data, .data, .data, .data, .widerDeep, .sentinel, .sentinel, .data, .pinned], laidTests := true, laidLooks := .later }
def TraceWordsCardSaid : Prop := Claim7.holds Tryd.pinned (.plain (OpenSpec.ofChange traceWordsSpec)) traceWordsCard

/-- THE TIED CARD OF 'bafflelaw41.TraceTimes'. -/
def traceTimesCard : Claim7 := { stood := { row := traceTimesRow, standIns := [], harness := (true, "f1938d8dc0cdfeb1b8f7468a83730d1cc0bbb6e442e599d82429c76520532691"), looks := true }, kinds := [], alts := [], laidByText := true, laidKinds := [.data, .data, .data, .data, .widerDeep, .sentinel, .sentinel, .data, .pinned], laidTests := true, laidLooks := .later }
def TraceTimesCardSaid : Prop := Claim7.holds Tryd.pinned (.plain (OpenSpec.ofChange traceTimesSpec)) traceTimesCard

/-- THE TIED CARD OF 'bafflelaw41.TraceWrong'. -/
def traceWrongCard : Claim7 := { stood := { row := traceWrongRow, standIns := [], harness := (true, "f1938d8dc0cdfeb1b8f7468a83730d1cc0bbb6e442e599d82429c76520532691"), looks := true }, kinds := [], alts := [], laidByText := true, laidKinds := [.data, .data, .data, .data, .widerDeep, .sentinel, .sentinel, .data, .pinned], laidTests := true, laidLooks := .later }
def TraceWrongCardSaid : Prop := Claim7.holds Tryd.pinned (.plain (OpenSpec.ofChange traceWrongSpec)) traceWrongCard

/-- THE TIED CARD OF 'bafflelaw41.TraceLast'. -/
def traceLastCard : Claim7 := { stood := { row := traceLastRow, standIns := [], harness := (true, "f1938d8dc0cdfeb1b8f7468a83730d1cc0bbb6e442e599d82429c76520532691"), looks := true }, kinds := [], alts := [], laidByText := true, laidKinds := [.data, .data, .data, .data, .widerDeep, .sentinel, .sentinel, .data, .pinned], laidTests := true, laidLooks := .later }
def TraceLastCardSaid : Prop := Claim7.holds Tryd.pinned (.plain (OpenSpec.ofChange traceLastSpec)) traceLastCard

/-- THE TIED CARD OF 'bafflelaw41.TraceAgrees'. -/
def traceAgreesCard : Claim7 := { stood := { row := traceAgreesRow, standIns := [], harness := (true, "f1938d8dc0cdfeb1b8f7468a83730d1cc0bbb6e442e599d82429c76520532691"), looks := true }, kinds := [], alts := [], laidByText := true, laidKinds := [.data, .data, .data, .data, .widerDeep, .sentinel, .sentinel, .data, .pinned], laidTests := true, laidLooks := .later }
def TraceAgreesCardSaid : Prop := Claim7.holds Tryd.pinned (.plain (OpenSpec.ofChange traceAgreesSpec)) traceAgreesCard

/-- THE SECOND FORM's CARD OF 'bafflelaw41.TraceBack'. -/
def traceBackUptoCard : Claim7 := { stood := { row := traceBackUptoRow, standIns := [], harness := (true, "f1938d8dc0cdfeb1b8f7468a83730d1cc0bbb6e442e599d82429c76520532691"), looks := true }, kinds := [], alts := [], laidByText := true, laidKinds := [.data, .data, .data, .data, .widerDeep, .sentinel, .sentinel, .data, .pinned], laidTests := true, laidLooks := .later }
def TraceBackUptoCardSaid : Prop := Claim7.holds Tryd.pinned (.plain (OpenSpec.upto traceBackSpec)) traceBackUptoCard

/-- THE SECOND FORM's CARD OF 'bafflelaw41.TraceWords'. -/
def traceWordsUptoCard : Claim7 := { stood := { row := traceWordsUptoRow, standIns := [], harness := (true, "f1938d8dc0cdfeb1b8f7468a83730d1cc0bbb6e442e599d82429c76520532691"), looks := true }, kinds := [], alts := [], laidByText := true, laidKinds := [.data, .data, .data, .data, .widerDeep, .sentinel, .sentinel, .data, .pinned], laidTests := true, laidLooks := .later }
def TraceWordsUptoCardSaid : Prop := Claim7.holds Tryd.pinned (.plain (OpenSpec.upto traceWordsSpec)) traceWordsUptoCard

/-- THE SECOND FORM's CARD OF 'bafflelaw41.TraceTimes'. -/
def traceTimesUptoCard : Claim7 := { stood := { row := traceTimesUptoRow, standIns := [], harness := (true, "f1938d8dc0cdfeb1b8f7468a83730d1cc0bbb6e442e599d82429c76520532691"), looks := true }, kinds := [], alts := [], laidByText := true, laidKinds := [.data, .data, .data, .data, .widerDeep, .sentinel, .sentinel, .data, .pinned], laidTests := true, laidLooks := .later }
def TraceTimesUptoCardSaid : Prop := Claim7.holds Tryd.pinned (.plain (OpenSpec.upto traceTimesSpec)) traceTimesUptoCard

/-- THE SECOND FORM's CARD OF 'bafflelaw41.TraceWrong'. -/
def traceWrongUptoCard : Claim7 := { stood := { row := traceWrongUptoRow, standIns := [], harness := (true, "f1938d8dc0cdfeb1b8f7468a83730d1cc0bbb6e442e599d82429c76520532691"), looks := true }, kinds := [], alts := [], laidByText := true, laidKinds := [.data, .data, .data, .data, .widerDeep, .sentinel, .sentinel, .data, .pinned], laidTests := true, laidLooks := .later }
def TraceWrongUptoCardSaid : Prop := Claim7.holds Tryd.pinned (.plain (OpenSpec.upto traceWrongSpec)) traceWrongUptoCard

/-- THE SECOND FORM's CARD OF 'bafflelaw41.TraceLast'. -/
def traceLastUptoCard : Claim7 := { stood := { row := traceLastUptoRow, standIns := [], harness := (true, "f1938d8dc0cdfeb1b8f7468a83730d1cc0bbb6e442e599d82429c76520532691"), looks := true }, kinds := [], alts := [], laidByText := true, laidKinds := [.data, .data, .data, .data, .widerDeep, .sentinel, .sentinel, .data, .pinned], laidTests := true, laidLooks := .later }
def TraceLastUptoCardSaid : Prop := Claim7.holds Tryd.pinned (.plain (OpenSpec.upto traceLastSpec)) traceLastUptoCard

/-- THE SECOND FORM's CARD OF 'bafflelaw41.TraceAgrees'. -/
def traceAgreesUptoCard : Claim7 := { stood := { row := traceAgreesUptoRow, standIns := [], harness := (true, "f1938d8dc0cdfeb1b8f7468a83730d1cc0bbb6e442e599d82429c76520532691"), looks := true }, kinds := [], alts := [], laidByText := true, laidKinds := [.data, .data, .data, .data, .widerDeep, .sentinel, .sentinel, .data, .pinned], laidTests := true, laidLooks := .later }
def TraceAgreesUptoCardSaid : Prop := Claim7.holds Tryd.pinned (.plain (OpenSpec.upto traceAgreesSpec)) traceAgreesUptoCard
end Rows
end Go.Proofs.YtdebpdjkkblcfaaDoor
