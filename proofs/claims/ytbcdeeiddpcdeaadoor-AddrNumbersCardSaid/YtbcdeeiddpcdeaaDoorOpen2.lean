/- Arguments opened and shut: prefixes, ranges, strings. -/
import Derived.Test.YtbcdeeiddpcdeaaDoorOpen
import Derived.ChangeMaps5
namespace Go.Proofs.YtbcdeeiddpcdeaaDoor
open Go.ChangeShapes Go.WideShapes Go.ChangeAt Go.RowKit Go.Ab Go.Joins
open Go.Deep
section
variable {H : Type} {enc : TypeId × Value → H} {W : World} {base : Nat} {sp : Nat → Bool} {held : Bool}
def prefD (a n : Int) : DataW H := .agg [.lit (.int .u32 a), .lit (.int .u8 n)]
def rangeD (a n : Int) : DataW H := .agg [.lit (.int .u16 a), .lit (.int .u16 n)]
theorem cellsPref : Tryd.prog.cellsOf 30 = 2 := by kernel_rfl
theorem cellsRange : Tryd.prog.cellsOf 46 = 2 := by kernel_rfl
set_option maxRecDepth 100000 in
theorem open_pref {r : Reach} {b0 : Nat} {v : Value} {d : DataW H} {p : List MemPlace} (hv : Value.okWide Tryd.prog W r b0 30 v) (h : DataW.Trod enc Tryd.prog W base sp held 30 v d p) :
    ∃ a n, v = .agg #[.int .u32 a, .int .u8 n] ∧ d = prefD a n ∧ p = [] ∧ (Lit.int .u32 a).wf = true ∧ (Lit.int .u8 n).wf = true := by
  obtain ⟨v0, v1, y0, y1, n, rfl, rfl, rfl, h0, h1⟩ := open_agg2 Tryd.underlying30 (by kernel_rfl) cellsPref hv h
  obtain ⟨z0, e0, rfl, w0⟩ := DataW.trod_int Tryd.underlying22 h0
  obtain ⟨z1, e1, rfl, w1⟩ := DataW.trod_int Tryd.underlying5 h1
  simp only [List.cons.injEq, and_true] at e0 e1
  subst e0 e1
  exact ⟨z0, z1, rfl, rfl, rfl, w0, w1⟩
set_option maxRecDepth 100000 in
theorem open_range {r : Reach} {b0 : Nat} {v : Value} {d : DataW H} {p : List MemPlace} (hv : Value.okWide Tryd.prog W r b0 46 v) (h : DataW.Trod enc Tryd.prog W base sp held 46 v d p) :
    ∃ a n, v = .agg #[.int .u16 a, .int .u16 n] ∧ d = rangeD a n ∧ p = [] ∧ (Lit.int .u16 a).wf = true ∧ (Lit.int .u16 n).wf = true := by
  obtain ⟨v0, v1, y0, y1, n, rfl, rfl, rfl, h0, h1⟩ := open_agg2 Tryd.underlying46 (by kernel_rfl) cellsRange hv h
  obtain ⟨z0, e0, rfl, w0⟩ := DataW.trod_int Tryd.underlying42 h0
  obtain ⟨z1, e1, rfl, w1⟩ := DataW.trod_int Tryd.underlying42 h1
  simp only [List.cons.injEq, and_true] at e0 e1
  subst e0 e1
  exact ⟨z0, z1, rfl, rfl, rfl, w0, w1⟩
theorem shut_pref {a n : Int} (w0 : (Lit.int .u32 a).wf = true) (w1 : (Lit.int .u8 n).wf = true) : DataW.Trod enc Tryd.prog W base sp held 30 (.agg #[.int .u32 a, .int .u8 n]) (prefD a n) [] :=
  shut_agg2 Tryd.underlying30 (by kernel_rfl) cellsPref ⟨_, trod_int_mk 0 Tryd.underlying22 w0⟩ ⟨_, trod_int_mk 0 Tryd.underlying5 w1⟩
theorem shut_range {a n : Int} (w0 : (Lit.int .u16 a).wf = true) (w1 : (Lit.int .u16 n).wf = true) : DataW.Trod enc Tryd.prog W base sp held 46 (.agg #[.int .u16 a, .int .u16 n]) (rangeD a n) [] :=
  shut_agg2 Tryd.underlying46 (by kernel_rfl) cellsRange ⟨_, trod_int_mk 0 Tryd.underlying42 w0⟩ ⟨_, trod_int_mk 0 Tryd.underlying42 w1⟩
end
end Go.Proofs.YtbcdeeiddpcdeaaDoor
