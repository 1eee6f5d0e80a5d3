/- Arguments opened and shut: keys, prefixes, ranges by value. -/
import Derived.Test.YtbcdeeiddpcdeaaDoorLaidWorld
import Derived.Test.YtbcdeeiddpcdeaaDoorKeysPlain
import Derived.Lib.SmallJoins
namespace Go.Proofs.YtbcdeeiddpcdeaaDoor
open Go.ChangeShapes Go.WideShapes Go.ChangeAt Go.RowKit Go.Ab Go.Joins
open Go.Deep
section
variable {H : Type} {enc : TypeId × Value → H} {W : World} {base : Nat} {sp : Nat → Bool} {held : Bool}
theorem array5 {α : Type} {cs : Array α} (h : cs.size = 5) : ∃ c0 c1 c2 c3 c4, cs = #[c0, c1, c2, c3, c4] := by
  obtain ⟨l⟩ := cs
  match l, h with
  | [c0, c1, c2, c3, c4], _ => exact ⟨c0, c1, c2, c3, c4, rfl⟩
def keyV (pr s d sp dp : Int) : Value := .agg #[.int .u8 pr, .int .u32 s, .int .u32 d, .int .u16 sp, .int .u16 dp]
def keyD (pr s d sp dp : Int) : DataW H := .agg [.lit (.int .u8 pr), .lit (.int .u32 s), .lit (.int .u32 d), .lit (.int .u16 sp), .lit (.int .u16 dp)]
theorem u8b {n : Int} (h : (Lit.int .u8 n).wf = true) : 0 ≤ n ∧ n < 256 := by have := bounds_u8 h; omega
theorem u16b {n : Int} (h : (Lit.int .u16 n).wf = true) : 0 ≤ n ∧ n < 65536 := by have := bounds_u16 h; omega
theorem u32b {n : Int} (h : (Lit.int .u32 n).wf = true) : 0 ≤ n ∧ n < 4294967296 := by have := bounds_u32 h; omega
theorem open_agg5 {P : Program} {w : World} {r : Reach} {b0 : Nat} {t : TypeId} {f0 f1 f2 f3 f4 : Field} {v : Value} {d : DataW H} {p : List MemPlace} (hs : P.underlying t = some (.struct #[f0, f1, f2, f3, f4])) (hone : oneCellFields P #[f0, f1, f2, f3, f4] = true) (hC : P.cellsOf t = 5)
    (hv : Value.okWide P w r b0 t v) (h : DataW.Trod enc P w base sp held t v d p) :
    ∃ (v0 v1 v2 v3 v4 : Value) (y0 y1 y2 y3 y4 : DataW H × List MemPlace) (n : Nat), v = .agg #[v0, v1, v2, v3, v4] ∧ d = .agg [y0.1, y1.1, y2.1, y3.1, y4.1] ∧ p = y0.2 ++ (y1.2 ++ (y2.2 ++ (y3.2 ++ y4.2))) ∧
      DataW.trod enc P w base sp held n f0.type [v0] = some y0 ∧ DataW.trod enc P w base sp held n f1.type [v1] = some y1 ∧ DataW.trod enc P w base sp held n f2.type [v2] = some y2 ∧ DataW.trod enc P w base sp held n f3.type [v3] = some y3 ∧ DataW.trod enc P w base sp held n f4.type [v4] = some y4 := by
  obtain ⟨cs, rfl, hsz⟩ := okWide_struct hs hv
  obtain ⟨c0, c1, c2, c3, c4, rfl⟩ := array5 (hsz.trans hC)
  obtain ⟨fuel, hf⟩ := h
  obtain ⟨xs, n, _, hx, _, hlen, hh⟩ := DataW.trod_struct hs hf
  match xs, hlen with
  | [y0, y1, y2, y3, y4], _ =>
    obtain ⟨o0, k0⟩ := hone_of hone 0 f0 rfl
    obtain ⟨o1, k1⟩ := hone_of hone 1 f1 rfl
    obtain ⟨o2, k2⟩ := hone_of hone 2 f2 rfl
    obtain ⟨o3, k3⟩ := hone_of hone 3 f3 rfl
    obtain ⟨o4, k4⟩ := hone_of hone 4 f4 rfl
    simp only [Prod.mk.injEq] at hx
    exact ⟨c0, c1, c2, c3, c4, y0, y1, y2, y3, y4, n, rfl, by simpa using hx.1, by simpa using hx.2, by simpa [Value.cells, o0, k0] using hh 0 f0 rfl, by simpa [Value.cells, o1, k1] using hh 1 f1 rfl, by simpa [Value.cells, o2, k2] using hh 2 f2 rfl, by simpa [Value.cells, o3, k3] using hh 3 f3 rfl, by simpa [Value.cells, o4, k4] using hh 4 f4 rfl⟩
theorem shut_agg5 {P : Program} {w : World} {n : Nat} {t : TypeId} {f0 f1 f2 f3 f4 : Field} {v0 v1 v2 v3 v4 : Value} {y0 y1 y2 y3 y4 : DataW H × List MemPlace} (hs : P.underlying t = some (.struct #[f0, f1, f2, f3, f4])) (hone : oneCellFields P #[f0, f1, f2, f3, f4] = true) (hC : P.cellsOf t = 5)
    (t0 : DataW.trod enc P w base sp held n f0.type [v0] = some y0) (t1 : DataW.trod enc P w base sp held n f1.type [v1] = some y1) (t2 : DataW.trod enc P w base sp held n f2.type [v2] = some y2) (t3 : DataW.trod enc P w base sp held n f3.type [v3] = some y3) (t4 : DataW.trod enc P w base sp held n f4.type [v4] = some y4) :
    DataW.Trod enc P w base sp held t (.agg #[v0, v1, v2, v3, v4]) (.agg [y0.1, y1.1, y2.1, y3.1, y4.1]) (y0.2 ++ (y1.2 ++ (y2.2 ++ (y3.2 ++ y4.2)))) := by
  obtain ⟨o0, k0⟩ := hone_of hone 0 f0 rfl
  obtain ⟨o1, k1⟩ := hone_of hone 1 f1 rfl
  obtain ⟨o2, k2⟩ := hone_of hone 2 f2 rfl
  obtain ⟨o3, k3⟩ := hone_of hone 3 f3 rfl
  obtain ⟨o4, k4⟩ := hone_of hone 4 f4 rfl
  have ts := trod_struct_mk (enc := enc) (w := w) (base := base) (spare := sp) (held := held) (n := n) (cs := [v0, v1, v2, v3, v4]) (xs := [y0, y1, y2, y3, y4]) hs (by simp [hC])
    (by simp [o0, k0, o1, k1, o2, k2, o3, k3, o4, k4, t0, t1, t2, t3, t4])
  exact ⟨_, by simpa [Value.cells] using ts⟩
theorem cellsKey : Tryd.prog.cellsOf 52 = 5 := by kernel_rfl
set_option maxRecDepth 100000 in
theorem open_key {r : Reach} {b0 : Nat} {v : Value} {d : DataW H} {p : List MemPlace} (hv : Value.okWide Tryd.prog W r b0 52 v) (h : DataW.Trod enc Tryd.prog W base sp held 52 v d p) :
    ∃ pr s dd spo dpo, v = .agg #[.int .u8 pr, .int .u32 s, .int .u32 dd, .int .u16 spo, .int .u16 dpo] ∧ d = keyD pr s dd spo dpo ∧ p = [] ∧ KeyB pr s dd spo dpo := by
  obtain ⟨v0, v1, v2, v3, v4, y0, y1, y2, y3, y4, n, rfl, rfl, rfl, h0, h1, h2, h3, h4⟩ := open_agg5 Tryd.underlying52 (by kernel_rfl) cellsKey hv h
  obtain ⟨z0, e0, rfl, w0⟩ := DataW.trod_int Tryd.underlying5 h0
  obtain ⟨z1, e1, rfl, w1⟩ := DataW.trod_int Tryd.underlying22 h1
  obtain ⟨z2, e2, rfl, w2⟩ := DataW.trod_int Tryd.underlying22 h2
  obtain ⟨z3, e3, rfl, w3⟩ := DataW.trod_int Tryd.underlying42 h3
  obtain ⟨z4, e4, rfl, w4⟩ := DataW.trod_int Tryd.underlying42 h4
  simp only [List.cons.injEq, and_true] at e0 e1 e2 e3 e4
  subst e0 e1 e2 e3 e4
  exact ⟨z0, z1, z2, z3, z4, rfl, rfl, rfl, ⟨(u8b w0).1, (u8b w0).2, (u32b w1).1, (u32b w1).2, (u32b w2).1, (u32b w2).2, (u16b w3).1, (u16b w3).2, (u16b w4).1, (u16b w4).2⟩⟩
theorem wf8 {n : Int} (h0 : 0 ≤ n) (h1 : n < 256) : (Lit.int .u8 n).wf = true := by
  simp [Lit.wf, IntKind.min, IntKind.max, IntKind.signed, IntKind.bits]; omega
theorem wf16 {n : Int} (h0 : 0 ≤ n) (h1 : n < 65536) : (Lit.int .u16 n).wf = true := by
  simp [Lit.wf, IntKind.min, IntKind.max, IntKind.signed, IntKind.bits]; omega
theorem wf32 {n : Int} (h0 : 0 ≤ n) (h1 : n < 4294967296) : (Lit.int .u32 n).wf = true := by
  simp [Lit.wf, IntKind.min, IntKind.max, IntKind.signed, IntKind.bits]; omega
set_option maxRecDepth 100000 in
theorem shut_key {pr s dd spo dpo : Int} (k : KeyB pr s dd spo dpo) : DataW.Trod enc Tryd.prog W base sp held 52 (.agg #[.int .u8 pr, .int .u32 s, .int .u32 dd, .int .u16 spo, .int .u16 dpo]) (keyD pr s dd spo dpo) [] :=
  shut_agg5 Tryd.underlying52 (by kernel_rfl) cellsKey (trod_int_mk 0 Tryd.underlying5 (wf8 k.r0 k.r1)) (trod_int_mk 0 Tryd.underlying22 (wf32 k.s0 k.s1)) (trod_int_mk 0 Tryd.underlying22 (wf32 k.d0 k.d1)) (trod_int_mk 0 Tryd.underlying42 (wf16 k.sp0 k.sp1)) (trod_int_mk 0 Tryd.underlying42 (wf16 k.dp0 k.dp1))
end
end Go.Proofs.YtbcdeeiddpcdeaaDoor
