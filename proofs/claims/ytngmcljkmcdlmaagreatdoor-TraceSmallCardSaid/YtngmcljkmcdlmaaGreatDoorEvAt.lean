/- Events in boxes. -/
import Derived.Test.YtngmcljkmcdlmaaGreatDoorRing1
namespace Go.Ab
open Go.RowKit
/-- The cells of an event at the head of a block. -/
structure EvAt (w : World) (p : Nat) (e : Ev) : Prop where
  c0 : w.cell? ⟨p, 0, none⟩ = some (.int .i64 e.n)
  c1 : w.cell? ⟨p, 1, none⟩ = some (.int .u8 e.sd)
  c2 : w.cell? ⟨p, 2, none⟩ = some (.int .u8 e.r)
  c3 : w.cell? ⟨p, 3, none⟩ = some (.int .u8 e.pr)
  c4 : w.cell? ⟨p, 4, none⟩ = some (.int .u32 e.s)
  c5 : w.cell? ⟨p, 5, none⟩ = some (.int .u32 e.d)
  c6 : w.cell? ⟨p, 6, none⟩ = some (.int .u16 e.sp)
  c7 : w.cell? ⟨p, 7, none⟩ = some (.int .u16 e.dp)
theorem EvAt.up {w W : World} {p : Nat} {e : Ev} (h : EvAt w p e) (u : Up w W) : EvAt W p e :=
  ⟨u.cell_some' h.c0, u.cell_some' h.c1, u.cell_some' h.c2, u.cell_some' h.c3, u.cell_some' h.c4, u.cell_some' h.c5, u.cell_some' h.c6, u.cell_some' h.c7⟩
theorem EvAt.lt {w : World} {p : Nat} {e : Ev} (h : EvAt w p e) : LtSize p w := ⟨cell_lt' h.c0⟩
end Go.Ab
