/- The closure of DumpChanges: whether a dump has a line, or its key. Plain laws for DumpChanges: what its closure says of each change. -/
import Derived.Test.YtlbbepgfjigjpaaGreatDoorDChP
import Derived.Test.YtlbbepgfjigjpaaGreatDoorDBuild
import Derived.Test.YtlbbepgfjigjpaaGreatDoorLF
namespace Go.Ab
open Go.RowKit Go.Proofs.YtlbbepgfjigjpaaGreatDoor
theorem LnAt.of_heap {w : World} {p : Nat} {x : Ln} {t : TypeId} {fr : Nat × Nat} (h : w.heap[p]? = some (.cells x.cells.toArray t fr)) : LnAt w p x :=
  ⟨by rw [cell_of_row w p 0 _ _ _ h]; rfl, by rw [cell_of_row w p 1 _ _ _ h]; rfl, by rw [cell_of_row w p 2 _ _ _ h]; rfl, by rw [cell_of_row w p 3 _ _ _ h]; rfl, by rw [cell_of_row w p 4 _ _ _ h]; rfl, by rw [cell_of_row w p 5 _ _ _ h]; rfl, by rw [cell_of_row w p 6 _ _ _ h]; rfl, by rw [cell_of_row w p 7 _ _ _ h]; rfl, by rw [cell_of_row w p 8 _ _ _ h]; rfl, by rw [cell_of_row w p 9 _ _ _ h]; rfl, by rw [cell_of_row w p 10 _ _ _ h]; rfl⟩
end Go.Ab
namespace Go.Proofs.YtlbbepgfjigjpaaGreatDoor
open Go.RowKit Go.Ab
attribute [local go_sem high] eq_line eq_key
end Go.Proofs.YtlbbepgfjigjpaaGreatDoor
namespace Go.Ab
open Go.RowKit Go.Proofs.YtlbbepgfjigjpaaGreatDoor
def Ln.kcs (x : Ln) : List Value := [.int .u8 x.pr, .int .u32 x.s, .int .u32 x.d, .int .u16 x.sp, .int .u16 x.dp]
theorem rangeUp {w W : World} {b f : Nat} {cs : List Value} (h : w.rangeAt b f cs) (u : Up w W) : W.rangeAt b f cs := fun j v hj => u.cell_some' (h j v hj)
end Go.Ab
namespace Go.Proofs.YtlbbepgfjigjpaaGreatDoor
open Go.RowKit Go.Ab
end Go.Proofs.YtlbbepgfjigjpaaGreatDoor
