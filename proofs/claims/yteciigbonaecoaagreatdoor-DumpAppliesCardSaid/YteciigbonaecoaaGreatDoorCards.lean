/-
  DERIVED. GIVEN WITH THE SEED: THE CARDS: each row of YteciigbonaecoaaGreatDoorRows.lean that lists a variable, with what it lists TIED to the program's text (the seventh form; the later family's looks); each row that meets fmt, with fmt's text TOLD by the authors' own Lean function (tested against real Go, not proved from fmt's source: count such statements apart). THE CARD IS WHAT COUNTS. Prove the row's statement (the work); the ties are given (YteciigbonaecoaaGreatDoorTie.lean); close each card by the builder's one call (the guide's Derived/Test/ToyasCard.lean, 'card_holds'). Laid BY PROGRAM, IN A SANDBOX (cutbox-door.mjs). By AI agents, Wed Nov 11 2026. No macro, syntax, notation, axiom, sorry.
-/
import Derived.Test.YteciigbonaecoaaGreatDoorRows
import GoSem.ClaimSeven
namespace Go.Proofs.YteciigbonaecoaaGreatDoor
namespace Rows

/-- THE TIED CARD OF 'bafflelaw38.DumpLists'. -/
def dumpListsCard : Claim7 := { stood := { row := dumpListsRow, standIns := [], harness := (true, "a991fa7dd732a34de186a19de84c7dc43b9ccbc63b94b0481ed7caa76068b3af"), looks := true }, kinds := [], alts := [], laidByText := true, laidKinds := [.data, .data, .data, .data, .widerDeep, .data, .sentinel, .sentinel, .data, .pinned], laidTests := true, laidLooks := .later }
def DumpListsCardSaid : Prop := Claim7.holds Tryz.pinned (.plain (OpenSpec.ofChange dumpListsSpec)) dumpListsCard

/-- THE TIED CARD OF 'bafflelaw38.DumpFlows'. -/
def dumpFlowsCard : Claim7 := { stood := { row := dumpFlowsRow, standIns := [], harness := (true, "a991fa7dd732a34de186a19de84c7dc43b9ccbc63b94b0481ed7caa76068b3af"), looks := true }, kinds := [], alts := [], laidByText := true, laidKinds := [.data, .data, .data, .data, .mapped, .widerDeep, .data, .data, .sentinel, .sentinel, .data, .pinned], laidTests := true, laidLooks := .later }
def DumpFlowsCardSaid : Prop := Claim7.holds Tryz.pinned (.plain (OpenSpec.ofChange dumpFlowsSpec)) dumpFlowsCard

/-- THE TIED CARD OF 'bafflelaw38.DumpApplies'. -/
def dumpAppliesCard : Claim7 := { stood := { row := dumpAppliesRow, standIns := [], harness := (true, "a991fa7dd732a34de186a19de84c7dc43b9ccbc63b94b0481ed7caa76068b3af"), looks := true }, kinds := [], alts := [], laidByText := true, laidKinds := [.data, .data, .data, .data, .widerDeep, .data, .sentinel, .sentinel, .data, .pinned], laidTests := true, laidLooks := .later }
def DumpAppliesCardSaid : Prop := Claim7.holds Tryz.pinned (.plain (OpenSpec.ofChange dumpAppliesSpec)) dumpAppliesCard

/-- THE TIED CARD OF 'bafflelaw38.DumpChanges'. -/
def dumpChangesCard : Claim7 := { stood := { row := dumpChangesRow, standIns := [], harness := (true, "a991fa7dd732a34de186a19de84c7dc43b9ccbc63b94b0481ed7caa76068b3af"), looks := true }, kinds := [], alts := [], laidByText := true, laidKinds := [.data, .data, .data, .data, .widerDeep, .data, .sentinel, .sentinel, .data, .pinned], laidTests := true, laidLooks := .later }
def DumpChangesCardSaid : Prop := Claim7.holds Tryz.pinned (.plain (OpenSpec.ofChange dumpChangesSpec)) dumpChangesCard

/-- THE TIED CARD OF 'bafflelaw38.DumpBack'. -/
def dumpBackCard : Claim7 := { stood := { row := dumpBackRow, standIns := [], harness := (true, "a991fa7dd732a34de186a19de84c7dc43b9ccbc63b94b0481ed7caa76068b3af"), looks := true }, kinds := [], alts := [], laidByText := true, laidKinds := [.data, .data, .data, .data, .widerDeep, .data, .sentinel, .sentinel, .data, .pinned], laidTests := true, laidLooks := .later }
def DumpBackCardSaid : Prop := Claim7.holds Tryz.pinned (.plain (OpenSpec.ofChange dumpBackSpec)) dumpBackCard

/-- THE TIED CARD OF 'bafflelaw38.DumpWrong'. -/
def dumpWrongCard : Claim7 := { stood := { row := dumpWrongRow, standIns := [], harness := (true, "a991fa7dd732a34de186a19de84c7dc43b9ccbc63b94b0481ed7caa76068b3af"), looks := true }, kinds := [], alts := [], laidByText := true, laidKinds := [.data, .data, .data, .data, .widerDeep, .data, .sentinel, .sentinel, .data, .pinned], laidTests := true, laidLooks := .later }
def DumpWrongCardSaid : Prop := Claim7.holds Tryz.pinned (.plain (OpenSpec.ofChange dumpWrongSpec)) dumpWrongCard

/-- THE TIED CARD OF 'bafflelaw38.DumpSmall'. -/
def dumpSmallCard : Claim7 := { stood := { row := dumpSmallRow, standIns := [], harness := (true, "a991fa7dd732a34de186a19de84c7dc43b9ccbc63b94b0481ed7caa76068b3af"), looks := true }, kinds := [], alts := [], laidByText := true, laidKinds := [.data, .data, .data, .data, .mapped, .widerDeep, .data, .data, .sentinel, .sentinel, .data, .pinned], laidTests := true, laidLooks := .later }
def DumpSmallCardSaid : Prop := Claim7.holds Tryz.pinned (.plain (OpenSpec.ofChange dumpSmallSpec)) dumpSmallCard

/-- THE SECOND FORM's CARD OF 'bafflelaw38.DumpLists'. -/
def dumpListsUptoCard : Claim7 := { stood := { row := dumpListsUptoRow, standIns := [], harness := (true, "a991fa7dd732a34de186a19de84c7dc43b9ccbc63b94b0481ed7caa76068b3af"), looks := true }, kinds := [], alts := [], laidByText := true, laidKinds := [.data, .data, .data, .data, .widerDeep, .data, .sentinel, .sentinel, .data, .pinned], laidTests := true, laidLooks := .later }
def DumpListsUptoCardSaid : Prop := Claim7.holds Tryz.pinned (.plain (OpenSpec.upto dumpListsSpec)) dumpListsUptoCard

/-- THE SECOND FORM's CARD OF 'bafflelaw38.DumpFlows'. -/
def dumpFlowsUptoCard : Claim7 := { stood := { row := dumpFlowsUptoRow, standIns := [], harness := (true, "a991fa7dd732a34de186a19de84c7dc43b9ccbc63b94b0481ed7caa76068b3af"), looks := true }, kinds := [], alts := [], laidByText := true, laidKinds := [.data, .data, .data, .data, .mapped, .widerDeep, .data, .data, .sentinel, .sentinel, .data, .pinned], laidTests := true, laidLooks := .later }
def DumpFlowsUptoCardSaid : Prop := Claim7.holds Tryz.pinned (.plain (OpenSpec.upto dumpFlowsSpec)) dumpFlowsUptoCard

/-- THE SECOND FORM's CARD OF 'bafflelaw38.DumpApplies'. -/
def dumpAppliesUptoCard : Claim7 := { stood := { row := dumpAppliesUptoRow, standIns := [], harness := (true, "a991fa7dd732a34de186a19de84c7dc43b9ccbc63b94b0481ed7caa76068b3af"), looks := true }, kinds := [], alts := [], laidByText := true, laidKinds := [.data, .data, .data, .data, .widerDeep, .data, .sentinel, .sentinel, .data, .pinned], laidTests := true, laidLooks := .later }
def DumpAppliesUptoCardSaid : Prop := Claim7.holds Tryz.pinned (.plain (OpenSpec.upto dumpAppliesSpec)) dumpAppliesUptoCard

/-- THE SECOND FORM's CARD OF 'bafflelaw38.DumpChanges'. -/
def dumpChangesUptoCard : Claim7 := { stood := { row := dumpChangesUptoRow, standIns := [], harness := (true, "a991fa7dd732a34de186a19de84c7dc43b9ccbc63b94b0481ed7caa76068b3af"), looks := true }, kinds := [], alts := [], laidByText := true, laidKinds := [.data, .data, .data, .data, .widerDeep, .data, .sentinel, .sentinel, .data, .pinned], laidTests := true, laidLooks := .later }
def DumpChangesUptoCardSaid : Prop := Claim7.holds Tryz.pinned (.plain (OpenSpec.upto dumpChangesSpec)) dumpChangesUptoCard

/-- THE SECOND FORM's CARD OF 'bafflelaw38.DumpBack'. -/
def dumpBackUptoCard : Claim7 := { stood := { row := dumpBackUptoRow, standIns := [], harness := (true, "a991fa7dd732a34de186a19de84c7dc43b9ccbc63b94b0481ed7caa76068b3af"), looks := true }, kinds := [], alts := [], laidByText := true, laidKinds := [.data, .data, .data, .data, .widerDeep, .data, .sentinel, .sentinel, .data, .pinned], laidTests := true, laidLooks := .later }
def DumpBackUptoCardSaid : Prop := Claim7.holds Tryz.pinned (.plain (OpenSpec.upto dumpBackSpec)) dumpBackUptoCard

/-- THE SECOND FORM's CARD OF 'bafflelaw38.DumpWrong'. -/
def dumpWrongUptoCard : Claim7 := { stood := { row := dumpWrongUptoRow, standIns := [], harness := (true, "a991fa7dd732a34de186a19de84c7dc43b9ccbc63b94b0481ed7caa76068b3af"), looks := true }, kinds := [], alts := [], laidByText := true, laidKinds := [.data, .data, .data, .data, .widerDeep, .data, .sentinel, .sentinel, .data, .pinned], laidTests := true, laidLooks := .later }
def DumpWrongUptoCardSaid : Prop := Claim7.holds Tryz.pinned (.plain (OpenSpec.upto dumpWrongSpec)) dumpWrongUptoCard

/-- THE SECOND FORM's CARD OF 'bafflelaw38.DumpSmall'. -/
def dumpSmallUptoCard : Claim7 := { stood := { row := dumpSmallUptoRow, standIns := [], harness := (true, "a991fa7dd732a34de186a19de84c7dc43b9ccbc63b94b0481ed7caa76068b3af"), looks := true }, kinds := [], alts := [], laidByText := true, laidKinds := [.data, .data, .data, .data, .mapped, .widerDeep, .data, .data, .sentinel, .sentinel, .data, .pinned], laidTests := true, laidLooks := .later }
def DumpSmallUptoCardSaid : Prop := Claim7.holds Tryz.pinned (.plain (OpenSpec.upto dumpSmallSpec)) dumpSmallUptoCard
end Rows
end Go.Proofs.YteciigbonaecoaaGreatDoor
