/- Arguments opened: events, by value and in a slice. -/
import Derived.Test.YtdebpdjkkblcfaaGreatDoorTLaid
import Derived.Test.YtdebpdjkkblcfaaGreatDoorRing1
import Derived.Test.YtdebpdjkkblcfaaGreatDoorKeysPlain
import Derived.Lib.SmallJoins
import Derived.Deep.Slices
import Derived.Deep.Fields
import Derived.ChangeMaps5
namespace Go.Proofs.YtdebpdjkkblcfaaGreatDoor
open Go.ChangeShapes Go.WideShapes Go.ChangeAt Go.RowKit Go.Ab Go.Joins
open Go.Deep
section
variable {H : Type} {enc : TypeId × Value → H} {W : World} {base : Nat} {sp : Nat → Bool} {held : Bool}
theorem u8b {n : Int} (h : (Lit.int .u8 n).wf = true) : 0 ≤ n ∧ n < 256 := by have := bounds_u8 h; omega
theorem u16b {n : Int} (h : (Lit.int .u16 n).wf = true) : 0 ≤ n ∧ n < 65536 := by have := bounds_u16 h; omega
theorem u32b {n : Int} (h : (Lit.int .u32 n).wf = true) : 0 ≤ n ∧ n < 4294967296 := by have := bounds_u32 h; omega
theorem i64b {n : Int} (h : (Lit.int .i64 n).wf = true) : -9223372036854775808 ≤ n ∧ n ≤ 9223372036854775807 := by
  simp [Lit.wf, IntKind.min, IntKind.max, IntKind.signed, IntKind.bits] at h; omega
set_option maxRecDepth 100000 in
theorem fields5 {P : Program} {w : World} {t : TypeId} {f0 f1 f2 f3 f4 : Field} {fuel : Nat} {cs : List Value} {x : DataW H × List MemPlace} (hs : P.underlying t = some (.struct #[f0, f1, f2, f3, f4])) (hone : oneCellFields P #[f0, f1, f2, f3, f4] = true) (h : DataW.trod enc P w base sp held fuel t cs = some x) (hl : cs.length = 5) :
    ∃ (c0 c1 c2 c3 c4 : Value) (y0 y1 y2 y3 y4 : DataW H × List MemPlace) (n : Nat), cs = [c0, c1, c2, c3, c4] ∧ DataW.trod enc P w base sp held n f0.type [c0] = some y0 ∧ DataW.trod enc P w base sp held n f1.type [c1] = some y1 ∧ DataW.trod enc P w base sp held n f2.type [c2] = some y2 ∧ DataW.trod enc P w base sp held n f3.type [c3] = some y3 ∧ DataW.trod enc P w base sp held n f4.type [c4] = some y4 := by
  obtain ⟨xs, n, _, hx, _, hlen, hh⟩ := DataW.trod_struct hs h
  match cs, hl, xs, hlen with
  | [c0, c1, c2, c3, c4], _, [y0, y1, y2, y3, y4], _ =>
    obtain ⟨o0, k0⟩ := hone_of hone 0 f0 rfl
    obtain ⟨o1, k1⟩ := hone_of hone 1 f1 rfl
    obtain ⟨o2, k2⟩ := hone_of hone 2 f2 rfl
    obtain ⟨o3, k3⟩ := hone_of hone 3 f3 rfl
    obtain ⟨o4, k4⟩ := hone_of hone 4 f4 rfl
    exact ⟨c0, c1, c2, c3, c4, y0, y1, y2, y3, y4, n, rfl, by simpa [o0, k0] using hh 0 f0 rfl, by simpa [o1, k1] using hh 1 f1 rfl, by simpa [o2, k2] using hh 2 f2 rfl, by simpa [o3, k3] using hh 3 f3 rfl, by simpa [o4, k4] using hh 4 f4 rfl⟩
set_option maxRecDepth 100000 in
theorem fields_ev {P : Program} {w : World} {t : TypeId} {f0 f1 f2 f3 : Field} {fuel : Nat} {cs : List Value} {x : DataW H × List MemPlace} (hs : P.underlying t = some (.struct #[f0, f1, f2, f3])) (ho : f0.offset = 0 ∧ f1.offset = 1 ∧ f2.offset = 2 ∧ f3.offset = 3) (hc : P.cellsOf f0.type = 1 ∧ P.cellsOf f1.type = 1 ∧ P.cellsOf f2.type = 1 ∧ P.cellsOf f3.type = 5) (h : DataW.trod enc P w base sp held fuel t cs = some x) (hl : cs.length = 8) :
    ∃ (c0 c1 c2 c3 c4 c5 c6 c7 : Value) (y0 y1 y2 y3 : DataW H × List MemPlace) (n : Nat), cs = [c0, c1, c2, c3, c4, c5, c6, c7] ∧ DataW.trod enc P w base sp held n f0.type [c0] = some y0 ∧ DataW.trod enc P w base sp held n f1.type [c1] = some y1 ∧ DataW.trod enc P w base sp held n f2.type [c2] = some y2 ∧ DataW.trod enc P w base sp held n f3.type [c3, c4, c5, c6, c7] = some y3 := by
  obtain ⟨xs, n, _, hx, _, hlen, hh⟩ := DataW.trod_struct hs h
  obtain ⟨o0, o1, o2, o3⟩ := ho
  obtain ⟨k0, k1, k2, k3⟩ := hc
  match cs, hl, xs, hlen with
  | [c0, c1, c2, c3, c4, c5, c6, c7], _, [y0, y1, y2, y3], _ =>
    exact ⟨c0, c1, c2, c3, c4, c5, c6, c7, y0, y1, y2, y3, n, rfl, by simpa [o0, k0] using hh 0 f0 rfl, by simpa [o1, k1] using hh 1 f1 rfl, by simpa [o2, k2] using hh 2 f2 rfl, by simpa [o3, k3] using hh 3 f3 rfl⟩
theorem cellsEvent : Tryz.prog.cellsOf 27 = 8 := by kernel_rfl
set_option maxRecDepth 100000 in
/-- The cells of an event. -/
theorem open_event_at {fuel : Nat} {cs : List Value} {x : DataW H × List MemPlace} (h : DataW.trod enc Tryz.prog W base sp held fuel 27 cs = some x) (hl : cs.length = 8) : ∃ e : Ev, cs = e.cells ∧ EvB e := by
  obtain ⟨c0, c1, c2, c3, c4, c5, c6, c7, y0, y1, y2, y3, n, rfl, h0, h1, h2, h3⟩ := fields_ev Tryz.underlying27 ⟨rfl, rfl, rfl, rfl⟩ ⟨by kernel_rfl, by kernel_rfl, by kernel_rfl, by kernel_rfl⟩ h hl
  obtain ⟨z0, e0, _, w0⟩ := DataW.trod_int Tryz.underlying3 h0
  obtain ⟨z1, e1, _, w1⟩ := DataW.trod_int Tryz.underlying5 h1
  obtain ⟨z2, e2, _, w2⟩ := DataW.trod_int Tryz.underlying5 h2
  obtain ⟨d3, d4, d5, d6, d7, v3, v4, v5, v6, v7, n', hk, h3, h4, h5, h6, h7⟩ := fields5 Tryz.underlying25 (by kernel_rfl) h3 rfl
  simp only [List.cons.injEq, and_true] at hk
  obtain ⟨rfl, rfl, rfl, rfl, rfl⟩ := hk
  obtain ⟨z3, e3, _, w3⟩ := DataW.trod_int Tryz.underlying5 h3
  obtain ⟨z4, e4, _, w4⟩ := DataW.trod_int Tryz.underlying22 h4
  obtain ⟨z5, e5, _, w5⟩ := DataW.trod_int Tryz.underlying22 h5
  obtain ⟨z6, e6, _, w6⟩ := DataW.trod_int Tryz.underlying23 h6
  obtain ⟨z7, e7, _, w7⟩ := DataW.trod_int Tryz.underlying23 h7
  simp only [List.cons.injEq, and_true] at e0 e1 e2 e3 e4 e5 e6 e7
  subst e0 e1 e2 e3 e4 e5 e6 e7
  exact ⟨⟨z0, z1, z2, z3, z4, z5, z6, z7⟩, rfl, (i64b w0).1, (i64b w0).2, (u8b w1).1, (u8b w1).2, (u8b w2).1, (u8b w2).2, ⟨(u8b w3).1, (u8b w3).2, (u32b w4).1, (u32b w4).2, (u32b w5).1, (u32b w5).2, (u16b w6).1, (u16b w6).2, (u16b w7).1, (u16b w7).2⟩⟩
set_option maxRecDepth 100000 in
theorem open_event {r : Reach} {b0 : Nat} {v : Value} {d : DataW H} {p : List MemPlace} (hv : Value.okWide Tryz.prog W r b0 27 v) (h : DataW.Trod enc Tryz.prog W base sp held 27 v d p) : ∃ e : Ev, v = e.val ∧ EvB e := by
  obtain ⟨cs, rfl, hsz⟩ := okWide_struct Tryz.underlying27 hv
  obtain ⟨fuel, hf⟩ := h
  obtain ⟨e, he, hb⟩ := open_event_at hf (by simpa [Value.cells] using hsz.trans cellsEvent)
  refine ⟨e, ?_, hb⟩
  have : cs = e.cells.toArray := by rw [← he]; rfl
  rw [this]; rfl
end
end Go.Proofs.YtdebpdjkkblcfaaGreatDoor
