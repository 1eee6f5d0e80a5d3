/- Facts on blocks that travel by instance: no bound is laid by hand behind a call. -/
import Derived.Test.YtdebpdjkkblcfaaGreatDoorBase
namespace Go.Ab
open Go.RowKit

/-- The size of a world, written as the walk writes it. -/
class SizeIs (w : World) (n : outParam Nat) : Prop where
  eq : w.heap.size = n
/-- A block that the world has. -/
class LtSize (b : Nat) (w : World) : Prop where
  lt : b < w.heap.size
/-- Two blocks that are not one. -/
class NeB (a b : Nat) : Prop where
  ne : a ≠ b
class LtB (a b : Nat) : Prop where
  lt : a < b
instance (priority := 10) SizeIs.base (w : World) : SizeIs w w.heap.size := ⟨rfl⟩
instance SizeIs.alloc (w : World) (n : Nat) (o : Obj) [h : SizeIs w n] : SizeIs (w.alloc o) (n + 1) := ⟨by rw [World.size_alloc, h.eq]⟩
instance SizeIs.drew (w : World) (n : Nat) [h : SizeIs w n] : SizeIs w.drew n := ⟨h.eq⟩
instance SizeIs.setCell (w : World) (n : Nat) (p : Addr) (v : Value) [h : SizeIs w n] : SizeIs (w.setCell p v) n := ⟨by rw [World.size_setCell, h.eq]⟩
instance LtSize.new (w : World) (n : Nat) (o : Obj) [h : SizeIs w n] : LtSize n (w.alloc o) := ⟨by rw [World.size_alloc, h.eq]; omega⟩
instance LtSize.alloc (b : Nat) (w : World) (o : Obj) [h : LtSize b w] : LtSize b (w.alloc o) := ⟨by have := h.lt; rw [World.size_alloc]; omega⟩
instance LtSize.drew (b : Nat) (w : World) [h : LtSize b w] : LtSize b w.drew := ⟨h.lt⟩
instance LtSize.setCell (b : Nat) (w : World) (p : Addr) (v : Value) [h : LtSize b w] : LtSize b (w.setCell p v) := ⟨by rw [World.size_setCell]; exact h.lt⟩
instance LtSize.ext (b : Nat) (w : World) (x : Ext w) [h : LtSize b w] : LtSize b x.w := ⟨x.lt h.lt⟩
instance LtB.of_size (a : Nat) (w : World) [h : LtSize a w] : LtB a w.heap.size := ⟨h.lt⟩
instance LtB.one (a : Nat) : LtB a (a + 1) := ⟨by omega⟩
instance LtB.succ (a b : Nat) [h : LtB a b] : LtB a (b + 1) := ⟨by have := h.lt; omega⟩
instance NeB.of_lt (a b : Nat) [h : LtB a b] : NeB a b := ⟨by have := h.lt; omega⟩
instance NeB.of_gt (a b : Nat) [h : LtB b a] : NeB a b := ⟨by have := h.lt; omega⟩
instance NeB.succ (a b : Nat) [h : NeB a b] : NeB (a + 1) (b + 1) := ⟨by have := h.ne; omega⟩

theorem Ext.cellI {w : World} (x : Ext w) (b o : Nat) [h : LtSize b w] : x.w.cell? ⟨b, o, none⟩ = w.cell? ⟨b, o, none⟩ := x.cell h.lt
theorem Ext.frozenI {w : World} (x : Ext w) (b o : Nat) [h : LtSize b w] : x.w.frozen? ⟨b, o, none⟩ = w.frozen? ⟨b, o, none⟩ := x.frozen h.lt
theorem alloc_cellI (w : World) (ob : Obj) (b o : Nat) [h : LtSize b w] : (w.alloc ob).cell? ⟨b, o, none⟩ = w.cell? ⟨b, o, none⟩ := World.cell?_alloc_lt w ob _ h.lt
theorem alloc_frozenI (w : World) (ob : Obj) (b o : Nat) [h : LtSize b w] : (w.alloc ob).frozen? ⟨b, o, none⟩ = w.frozen? ⟨b, o, none⟩ := World.frozen?_alloc_past ob b o h.lt
theorem setCell_cellI (w : World) (p q i j : Nat) (v : Value) [h : NeB p q] : (w.setCell ⟨p, i, none⟩ v).cell? ⟨q, j, none⟩ = w.cell? ⟨q, j, none⟩ :=
  World.cell?_setCell_other w _ _ v (fun e => h.ne (congrArg Addr.block e))
theorem alloc_at_cellI (w : World) (n i : Nat) (c : Array Value) (t : TypeId) [h : SizeIs w n] : (w.alloc (.cells c t)).cell? ⟨n, i, none⟩ = c[i]? := World.cell?_alloc_at c t n i h.eq.symm
theorem alloc_at_frozenI (w : World) (n i : Nat) (c : Array Value) (t : TypeId) [h : SizeIs w n] : (w.alloc (.cells c t)).frozen? ⟨n, i, none⟩ = false := World.frozen?_alloc_at c t n i h.eq.symm
attribute [go_sem] Ext.cellI Ext.frozenI alloc_cellI alloc_frozenI setCell_cellI

/-- W is w with new blocks behind it: by instance. -/
class UpI (w W : World) : Prop where
  up : Up w W
instance (priority := 2000) UpI.refl (w : World) : UpI w w := ⟨Up.refl w⟩
instance UpI.alloc (w W : World) (o : Obj) [h : UpI w W] : UpI w (W.alloc o) := ⟨h.up.alloc o⟩
instance UpI.drew (w W : World) [h : UpI w W] : UpI w W.drew := ⟨h.up.drew⟩
instance UpI.ext (w W : World) (x : Ext W) [h : UpI w W] : UpI w x.w := ⟨h.up.ext x⟩
/-- The block is not one of the world's. -/
class GeSize (w : World) (b : Nat) : Prop where
  ge : w.heap.size ≤ b
instance GeSize.base (w : World) : GeSize w w.heap.size := ⟨Nat.le_refl _⟩
instance GeSize.succ (w : World) (b : Nat) [h : GeSize w b] : GeSize w (b + 1) := ⟨Nat.le_succ_of_le h.ge⟩
instance (priority := 500) GeSize.later (w W : World) [h : UpI w W] : GeSize w W.heap.size := ⟨h.up.size⟩
instance UpI.setCell (w W : World) (b o : Nat) (v : Value) [h : UpI w W] [g : GeSize w b] : UpI w (W.setCell ⟨b, o, none⟩ v) := ⟨h.up.setCell g.ge v⟩
theorem Gives.mono {P : Program} {f : FuncId} {args : Array Value} {w : World} {v : Value} {Q : Ending → World → Prop} (h : Gives P f args w v) (k : ∀ e w', (e = .returned v ∧ ∃ x : Ext w, w' = x.w) → Q e w') : Calls P f args w Q :=
  Calls.mono h k
theorem upI {w W : World} [h : UpI w W] : Up w W := h.up
theorem mkI {w W : World} [h : UpI w W] : ∃ x : Ext w, W = x.w := h.up.mk
end Go.Ab
