/- Small laws that hold over any program: worlds that are a given one with new blocks behind it; a region that draws its order, whose operations read and whose calls lay new blocks at most, walked once. -/
import Derived.WalkKit
import Derived.WalkSpells
import Derived.WalkLawsBesides
import Derived.Deep.QuietTactic
import Derived.BigQuiet
import Derived.Lib.Hide
namespace Go.Ab
open Go.RowKit

/-- W is w with new blocks behind it. -/
def Up (w W : World) : Prop := Below w.heap.size w W
theorem Up.refl (w : World) : Up w w := Below.refl _ _
theorem Up.trans {a b c : World} (h : Up a b) (k : Up b c) : Up a c := Below.trans h (Below.mono k h.size)
theorem Up.alloc {w W : World} (h : Up w W) (o : Obj) : Up w (W.alloc o) := Below.alloc h h.size o
theorem Up.drew {w W : World} (h : Up w W) : Up w W.drew := Below.drew h
theorem Up.setCell {w W : World} (h : Up w W) {p : Addr} (hp : w.heap.size ≤ p.block) (u : Value) : Up w (W.setCell p u) := Below.setCell h hp u
theorem Up.lt {w W : World} (h : Up w W) {b : Nat} (hb : b < w.heap.size) : b < W.heap.size := Nat.lt_of_lt_of_le hb h.size

/-- A world that is w with new blocks behind it. -/
def Ext (w : World) : Type := { w' : World // Up w w' }
def Ext.w {w : World} (x : Ext w) : World := x.1
theorem Ext.up {w : World} (x : Ext w) : Up w x.w := x.2
theorem Up.ext {w W : World} (h : Up w W) (x : Ext W) : Up w x.w := h.trans x.up
instance Ext.inst {w : World} : Nonempty (Ext w) := ⟨⟨w, Up.refl _⟩⟩
theorem Ext.cell {w : World} (x : Ext w) {p : Addr} (h : p.block < w.heap.size) : x.w.cell? p = w.cell? p := Below.cell x.up h
theorem Ext.frozen {w : World} (x : Ext w) {p : Addr} (h : p.block < w.heap.size) : x.w.frozen? p = w.frozen? p := Below.frozen x.up h
theorem Ext.lt {w : World} (x : Ext w) {b : Nat} (h : b < w.heap.size) : b < x.w.heap.size := x.up.lt h
theorem lt_alloc {w : World} {b : Nat} (o : Obj) (h : b < w.heap.size) : b < (w.alloc o).heap.size := by rw [World.size_alloc]; omega
theorem le_of_lt_size {w : World} {b : Nat} (h : b < w.heap.size) : b ≤ w.heap.size := Nat.le_of_lt h
attribute [go_sem] Ext.cell Ext.frozen Ext.lt lt_alloc le_of_lt_size
theorem Up.mk {w W : World} (h : Up w W) : ∃ x : Ext w, W = x.w := ⟨⟨W, h⟩, rfl⟩

theorem lt_s2 (n : Nat) : n < n + 1 + 1 := by omega
theorem lt_s3 (n : Nat) : n < n + 1 + 1 + 1 := by omega
theorem lt_s4 (n : Nat) : n < n + 1 + 1 + 1 + 1 := by omega
theorem lt_s5 (n : Nat) : n < n + 1 + 1 + 1 + 1 + 1 := by omega
theorem lt_s6 (n : Nat) : n < n + 1 + 1 + 1 + 1 + 1 + 1 := by omega
theorem lt_s7 (n : Nat) : n < n + 1 + 1 + 1 + 1 + 1 + 1 + 1 := by omega
theorem lt_s8 (n : Nat) : n < n + 1 + 1 + 1 + 1 + 1 + 1 + 1 + 1 := by omega
theorem lt_s9 (n : Nat) : n < n + 1 + 1 + 1 + 1 + 1 + 1 + 1 + 1 + 1 := by omega
theorem lt_s10 (n : Nat) : n < n + 1 + 1 + 1 + 1 + 1 + 1 + 1 + 1 + 1 + 1 := by omega
attribute [go_sem] lt_s2 lt_s3 lt_s4 lt_s5 lt_s6 lt_s7 lt_s8 lt_s9 lt_s10
/-- A call that returns v and lays new blocks at most. -/
def Gives (P : Program) (f : FuncId) (args : Array Value) (w : World) (v : Value) : Prop :=
  Calls P f args w fun e w' => e = .returned v ∧ ∃ x : Ext w, w' = x.w
theorem Gives.ext {P : Program} {f : FuncId} {args : Array Value} {w : World} {x : Ext w} {v : Value} (h : Gives P f args x.w v) :
    Calls P f args x.w fun e w'' => e = .returned v ∧ ∃ y : Ext w, w'' = y.w :=
  h.mono fun _ _ ⟨he, y, hy⟩ => ⟨he, (Up.ext x.up y).mk.imp fun _ h => hy.trans h⟩
theorem Gives.of_same {P : Program} {f : FuncId} {args : Array Value} {w : World} {v : Value} (h : Calls P f args w fun e w' => e = .returned v ∧ w' = w) : Gives P f args w v :=
  h.mono fun _ _ ⟨he, hw⟩ => ⟨he, (Up.refl w).mk.imp fun _ h => hw.trans h⟩
theorem Gives.of_drewN {P : Program} {f : FuncId} {args : Array Value} {w : World} {v : Value} (h : Calls P f args w fun e w' => e = .returned v ∧ ∃ n, w' = w.drewN n) : Gives P f args w v :=
  h.mono fun _ _ ⟨he, n, hw⟩ => ⟨he, by subst hw; exact Up.mk (W := w.drewN n) ⟨rfl, rfl, rfl, Nat.le_refl _, fun _ _ => rfl⟩⟩
theorem Gives.of_below {P : Program} {f : FuncId} {args : Array Value} {w : World} {v : Value} (h : Calls P f args w fun e w' => e = .returned v ∧ Below w.heap.size w w') : Gives P f args w v :=
  h.mono fun _ _ ⟨he, hb⟩ => ⟨he, Up.mk hb⟩
theorem Gives.cast {P : Program} {f : FuncId} {args : Array Value} {w : World} {u v : Value} (h : Gives P f args w u) (e : u = v) : Gives P f args w v := e ▸ h

theorem wp_region_ext {P : Program} {id : Nat} {Q : Exit → Act → World → Prop} {a : Act} {w : World} {l : List Oper} (hm : P.follows .mixedOrders = true) (hB : Region.lexB .any l.toArray = true)
    (h : wpQuiet P l.toArray (fun w' => ∃ x : Ext w, w' = x.w) (fun a' => ∀ w', (∃ x : Ext w, w' = x.w) → Q .normal a' w') l a) : (Code.region id l.toArray true).wp P Q a w :=
  wp_region_quiet (C := fun w' => ∃ x : Ext w, w' = x.w) hm hB ⟨⟨_, (Up.refl _).drew⟩, rfl⟩ (by simpa using h)

theorem ret_int {k : IntKind} {a b : Int} (h : a = b) : Ending.returned (.int k a) = .returned (.int k b) := by rw [h]
theorem ret_bool {a b : Bool} (h : a = b) : Ending.returned (.bool a) = .returned (.bool b) := by rw [h]

theorem Up.grown {w W W' : World} {row : Option Nat} (h : Up w W) (hg : W.grownBy W' row) (hr : ∀ k, row = some k → w.heap.size ≤ k) : Up w W' := Below.grown h hg h.size hr
theorem owns_row {w : World} {base : Nat} {e : TypeId} {size : Nat} {v : Value} {n : Nat} {xs : List Value} (h : w.ownsRow base e size v n xs) : ∀ k, v.ownBlock = some k → base ≤ k := by
  obtain ⟨_, ⟨rfl, _⟩ | ⟨g, cap, cur, rfl, hg, _⟩⟩ := h
  · intro k hk; cases hk
  · intro k hk; cases hk; exact hg
theorem owns_up {w W : World} {base : Nat} {e : TypeId} {size : Nat} {v : Value} {n : Nat} {xs : List Value} (h : w.ownsRow base e size v n xs) (hu : Up w W) : W.ownsRow base e size v n xs := by
  obtain ⟨h1, h2⟩ := h
  refine ⟨h1, ?_⟩
  rcases h2 with h2 | ⟨g, cap, cur, hv, hg, hh, r⟩
  · exact Or.inl h2
  · exact Or.inr ⟨g, cap, cur, hv, hg, (hu.block g (Array.getElem?_eq_some_iff.1 hh).1).trans hh, r⟩
/-- What an owned row that is not empty reads as: the cells at its address. -/
theorem owns_cells {w : World} {base : Nat} {e : TypeId} {v : Value} {n : Nat} {xs : List Value} {size : Nat} (h : w.ownsRow base e size v n xs) (hn : 0 < n) :
    ∃ g cap, v = .slice (some ⟨g, 0, none⟩) n cap ∧ base ≤ g ∧ g < w.heap.size ∧ n ≤ cap ∧ ∀ (j : Nat) u, xs[j]? = some u → w.cell? ⟨g, j, none⟩ = some u := by
  obtain ⟨h1, ⟨_, h0⟩ | ⟨g, cap, cur, hv, hg, hh, hc, _, _, ht⟩⟩ := h
  · omega
  · refine ⟨g, cap, hv, hg, (Array.getElem?_eq_some_iff.1 hh).1, hc, fun j u hu => ?_⟩
    simp only [World.cell?, hh]
    rw [← ht] at hu
    have := List.getElem?_take (l := cur.toList) (i := n * size) (j := j)
    rw [hu] at this
    split at this
    · simpa using this.symm
    · cases this
theorem lt_succ_all {P : Nat → Prop} {m : Nat} (h : ∀ j, j < m → P j) (hm : P m) : ∀ j, j < m + 1 → P j := fun j hj => by
  rcases Nat.lt_succ_iff_lt_or_eq.1 hj with h1 | h1
  · exact h j h1
  · exact h1 ▸ hm
theorem cell_lt' {w : World} {a : Addr} {v : Value} (h : w.cell? a = some v) : a.block < w.heap.size := by
  rcases Nat.lt_or_ge a.block w.heap.size with h1 | h1
  · exact h1
  · unfold World.cell? at h
    rw [Array.getElem?_eq_none h1] at h
    cases h
theorem Up.cell_some' {w W : World} (h : Up w W) {a : Addr} {v : Value} (hc : w.cell? a = some v) : W.cell? a = some v := (Below.cell h (cell_lt' hc)).trans hc
end Go.Ab
