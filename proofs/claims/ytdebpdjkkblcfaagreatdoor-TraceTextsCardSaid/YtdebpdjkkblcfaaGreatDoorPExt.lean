/- Worlds in which a ring may have changed: by instance. -/
import Derived.Test.YtdebpdjkkblcfaaGreatDoorRing4
namespace Go.Ab
open Go.RowKit
theorem Past.cell {p : Nat → Prop} {A B : World} (h : Past p A B) {a : Addr} {v : Value} (hc : A.cell? a = some v) (hp : ¬ p a.block) : B.cell? a = some v :=
  (World.cell?_of_block (h.block _ (cell_lt' hc) hp)).trans hc
theorem Past.refl (p : Nat → Prop) (A : World) : Past p A A := Past.of_up (Up.refl A)
/-- The world w, but the ring's blocks may have changed, and there may be new blocks. -/
structure PExt (R G : Nat) (w0 : World) where
  w : World
  past : Past (ringOwn R G) w0 w
theorem PExt.cellI {R G : Nat} {w : World} (x : PExt R G w) (b o : Nat) [h : LtSize b w] [h1 : NeB b R] [h2 : NeB b G] : x.w.cell? ⟨b, o, none⟩ = w.cell? ⟨b, o, none⟩ :=
  World.cell?_of_block (x.past.block b h.lt (fun e => e.elim h1.ne h2.ne))
theorem PExt.frozenI {R G : Nat} {w : World} (x : PExt R G w) (b o : Nat) [h : LtSize b w] [h1 : NeB b R] [h2 : NeB b G] : x.w.frozen? ⟨b, o, none⟩ = w.frozen? ⟨b, o, none⟩ :=
  World.frozen?_of_block (x.past.block b h.lt (fun e => e.elim h1.ne h2.ne))
instance LtSize.pext (b R G : Nat) (w : World) (x : PExt R G w) [h : LtSize b w] : LtSize b x.w := ⟨Nat.lt_of_lt_of_le h.lt x.past.size⟩
instance UpI.pext (R G : Nat) (w0 w : World) (x : PExt R G w) [h : UpI w0 w] [h1 : GeSize w0 R] [h2 : GeSize w0 G] : UpI w0 x.w :=
  ⟨x.past.up h.up (fun b hb => by rcases hb with rfl | rfl; exact h1.ge; exact h2.ge)⟩
attribute [go_sem] PExt.cellI PExt.frozenI
theorem Past.px {R G : Nat} {w W : World} (h : Past (ringOwn R G) w W) : ∃ x : PExt R G w, W = x.w := ⟨⟨W, h⟩, rfl⟩
/-- W is w, but for the ring's blocks: by instance. -/
class PastI (R G : Nat) (w W : World) : Prop where
  past : Past (ringOwn R G) w W
instance (priority := 2000) PastI.refl (R G : Nat) (w : World) : PastI R G w w := ⟨Past.refl _ w⟩
instance PastI.alloc (R G : Nat) (w W : World) (o : Obj) [h : PastI R G w W] : PastI R G w (W.alloc o) := ⟨h.past.trans (Past.of_up ((Up.refl W).alloc o))⟩
instance PastI.drew (R G : Nat) (w W : World) [h : PastI R G w W] : PastI R G w W.drew := ⟨h.past.trans (Past.of_up ((Up.refl W).drew))⟩
instance PastI.ext (R G : Nat) (w W : World) (x : Ext W) [h : PastI R G w W] : PastI R G w x.w := ⟨h.past.trans (Past.of_up x.up)⟩
instance PastI.pext (R G : Nat) (w W : World) (x : PExt R G W) [h : PastI R G w W] : PastI R G w x.w := ⟨h.past.trans x.past⟩
theorem wp_gen_alloc {P : Program} {c : Code} {Q : Exit → Act → World → Prop} {a : Act} {w1 W : World} {cs : Array Value} {t : TypeId} [h : UpI w1 W]
    (k : ∀ w2, UpI w1 w2 → (∀ i, w2.cell? ⟨W.heap.size, i, none⟩ = cs[i]?) → LtSize W.heap.size w2 → c.wp P Q a w2) : c.wp P Q a (W.alloc (.cells cs t)) :=
  k _ inferInstance (fun i => World.cell?_alloc_at cs t _ i rfl) ⟨by rw [World.size_alloc]; omega⟩
theorem pmkI {R G : Nat} {w W : World} [h : PastI R G w W] : ∃ x : PExt R G w, W = x.w := h.past.px
end Go.Ab
namespace Go.Proofs.YtdebpdjkkblcfaaGreatDoor
open Go.RowKit Go.Ab
theorem put_px (w : World) (R G size : Nat) (l : List Ev) (h : Ring w R G size l) (n sd r pr s d sp dp : Int) (eb : EvB ⟨n, sd, r, pr, s, d, sp, dp⟩) (hri : rightEv n sd r pr s d sp dp = true) (hlast : takes l ⟨n, sd, r, pr, s, d, sp, dp⟩) (hl : l.length < 1000000) :
    Calls Tryz.prog 12 #[.pointer (some ⟨R, 0, none⟩), .agg #[.int .i64 n, .int .u8 sd, .int .u8 r, .int .u8 pr, .int .u32 s, .int .u32 d, .int .u16 sp, .int .u16 dp]] w fun en w' =>
      en = .returned (.tuple #[.int .i64 (l.length : Int), .int .i64 0]) ∧ Ring w' R G size (l ++ [⟨n, sd, r, pr, s, d, sp, dp⟩]) ∧ ∃ x : PExt R G w, w' = x.w :=
  (ring_put w R G size l h ⟨n, sd, r, pr, s, d, sp, dp⟩ eb hri hlast hl).mono fun _ _ ⟨h1, h2, h3⟩ => ⟨h1, h2, h3.px⟩
theorem put_back_px (w : World) (R G size : Nat) (l : List Ev) (h : Ring w R G size l) (n sd r pr s d sp dp : Int) (eb : EvB ⟨n, sd, r, pr, s, d, sp, dp⟩) (hri : rightEv n sd r pr s d sp dp = true) (p : Ev) (hp : l.getLast? = some p) (hpe : n < p.n) :
    Gives Tryz.prog 12 #[.pointer (some ⟨R, 0, none⟩), .agg #[.int .i64 n, .int .u8 sd, .int .u8 r, .int .u8 pr, .int .u32 s, .int .u32 d, .int .u16 sp, .int .u16 dp]] w (.tuple #[.int .i64 0, .int .i64 411]) :=
  put_back w R G size l h ⟨n, sd, r, pr, s, d, sp, dp⟩ eb hri p hp hpe
end Go.Proofs.YtdebpdjkkblcfaaGreatDoor
