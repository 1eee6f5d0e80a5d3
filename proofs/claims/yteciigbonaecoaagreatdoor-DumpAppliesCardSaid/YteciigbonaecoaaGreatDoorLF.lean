/- What a row's list of laid variables and its world's shape give. A world for the witness: the settled one, the listed variables holding what their initialisers lay. Arguments opened: lines and changes of layer 38, by value and in slices. The laws' own comparing of dumps. In a region that only reads and draws its order: loads of rows of cells, structs built. Rows of lines into which lines are stored; loads and stores in a region that draws its order. The laws of single operations behind a seal: 'refine' looks at a goal's weak head normal form; the seal keeps it from unfolding the walk. -/
import Derived.Test.YteciigbonaecoaaGreatDoorCards
import Derived.Test.YteciigbonaecoaaGreatDoorTie
import Derived.Test.YteciigbonaecoaaGreatDoorNames
import Derived.Test.YteciigbonaecoaaGreatDoorWrap
import Derived.Test.YteciigbonaecoaaGreatDoorDA
import Derived.Deep.DeepHandedRow
import Derived.Deep.DeepWitnessRowRef
import Derived.Lib.LaidTab
import Derived.Stop.LaidErr
import Derived.Shelf.Vars
import Derived.Test.YteciigbonaecoaaGreatDoorDAw
import Derived.Lib.SmallJoins
import Derived.Deep.Slices
import Derived.Deep.Fields
import Derived.ChangeMaps5
import Derived.Test.YteciigbonaecoaaGreatDoorInst
import Derived.Deep.MidRow
import Derived.Test.YteciigbonaecoaaGreatDoorDBuild
import Derived.Test.YteciigbonaecoaaGreatDoorInRound
import Derived.Maps.RangeWalk
namespace Go.Proofs.YteciigbonaecoaaGreatDoor
open Go.ChangeShapes Go.WideShapes Go.ChangeAt Go.RowKit Go.Ab
theorem own : ownKnob Tryz.prog.godebug = none := by kernel_rfl
theorem laidOut : laidOutB Tryz.prog = true := by kernel_rfl
def sidesL : List (List UInt8) := [insideW, outsideW]
/-- The rows' list. -/
def laidList : List (String × DataW Unit) := [("math/bits.deBruijn32tab", Rows.laid_math_bits_deBruijn32tab), ("math/bits.deBruijn64tab", Rows.laid_math_bits_deBruijn64tab), ("internal/strconv.uint64pow10", Rows.laid_internal_strconv_uint64pow10), ("unicode/utf8.acceptRanges", Rows.laid_unicode_utf8_acceptRanges), ("baffle/pkt.names", Rows.laid_baffle_pkt_names), ("baffle/assured.names", Rows.laid_baffle_assured_names), ("strconv.ErrRange", Rows.laid_strconv_ErrRange), ("strconv.ErrSyntax", Rows.laid_strconv_ErrSyntax), ("baffle/dump.sides", Rows.laid_baffle_dump_sides), ("unicode/utf8.first", Rows.laid_unicode_utf8_first)]
theorem star : "*" ++ "errors.errorString" = "*errors.errorString" := by decide
theorem rowErr (u : TypeId) (h : Tryz.prog.typeName? 3 u = some "*errors.errorString") : u = 273 :=
  typeName_ptr_named (nm := "errors.errorString") (by rw [star]; kernel_rfl) (by kernel_rfl) (by decide) u (by rw [star]; exact h)
theorem good_of {W : World} (h : laidMetH Tryz.prog laidList W) (hs : W.ShapedOpen Tryz.prog) : Good W := by
  have hL : laidMet Tryz.prog laidList W := h
  unfold laidList at hL
  refine ⟨?_, ?_, ?_, ?_⟩
  · exact cell_of_shapedOpen_int (P := Tryz.prog) (g := 7) (t := 3) (zero := #[.int .i64 0]) hs (of_decide_eq_true (by kernel_rfl)) (by kernel_rfl) rfl (by kernel_rfl) (by kernel_rfl) Tryz.underlying3
  · obtain ⟨a, s, hv, _, _, _⟩ := laid_sentinel hL.tail.tail.tail.tail.tail.tail.tail (g := 4) (ti := 140) (tp := 273) (te := 275) (ts := 9) (by kernel_rfl) (by kernel_rfl) Tryz.underlying140 rowErr Tryz.underlying273 Tryz.underlying275 rfl rfl Tryz.underlying9 (by kernel_rfl) (by kernel_rfl)
    exact ⟨_, by simpa using World.var?_cell (show Tryz.prog.globalNamed "strconv.ErrSyntax" = some 4 by kernel_rfl) hv 0, .inr ⟨_, _, rfl⟩⟩
  · obtain ⟨a, s, hv, _, _, _⟩ := laid_sentinel hL.tail.tail.tail.tail.tail.tail (g := 5) (ti := 140) (tp := 273) (te := 275) (ts := 9) (by kernel_rfl) (by kernel_rfl) Tryz.underlying140 rowErr Tryz.underlying273 Tryz.underlying275 rfl rfl Tryz.underlying9 (by kernel_rfl) (by kernel_rfl)
    exact ⟨_, by simpa using World.var?_cell (show Tryz.prog.globalNamed "strconv.ErrRange" = some 5 by kernel_rfl) hv 0, .inr ⟨_, _, rfl⟩⟩
  · exact Lib.tabIs_of_head (g := 6) (by kernel_rfl) (t := 269) (by kernel_rfl) Tryz.underlying269 Tryz.underlying210 (by kernel_rfl) (by kernel_rfl) hL.tail.tail
theorem namesL_of {W : World} (h : laidMetH Tryz.prog laidList W) : ∀ (i : Nat) s, namesL[i]? = some s → W.cell? ⟨3, i, none⟩ = some (.string ⟨s.toArray⟩) := by
  have hL : laidMet Tryz.prog laidList W := h
  unfold laidList at hL
  have hk : laidMet Tryz.prog (("baffle/pkt.names", strData namesL) :: _) W := hL.tail.tail.tail.tail
  exact (strs_of_head (g := 3) (t := 181) (e := 9) (by kernel_rfl) (by kernel_rfl) Tryz.underlying181 Tryz.underlying9 (by kernel_rfl) (by kernel_rfl) hk).cell (by kernel_rfl)
theorem clsL_of {W : World} (h : laidMetH Tryz.prog laidList W) : ∀ (i : Nat) s, clsL[i]? = some s → W.cell? ⟨2, i, none⟩ = some (.string ⟨s.toArray⟩) := by
  have hL : laidMet Tryz.prog laidList W := h
  unfold laidList at hL
  have hk : laidMet Tryz.prog (("baffle/assured.names", strData clsL) :: _) W := hL.tail.tail.tail.tail.tail
  exact (strs_of_head (g := 2) (t := 171) (e := 9) (by kernel_rfl) (by kernel_rfl) Tryz.underlying171 Tryz.underlying9 (by kernel_rfl) (by kernel_rfl) hk).cell (by kernel_rfl)
theorem sidesL_of {W : World} (h : laidMetH Tryz.prog laidList W) : ∀ (i : Nat) s, sidesL[i]? = some s → W.cell? ⟨0, i, none⟩ = some (.string ⟨s.toArray⟩) := by
  have hL : laidMet Tryz.prog laidList W := h
  unfold laidList at hL
  have hk : laidMet Tryz.prog (("baffle/dump.sides", strData sidesL) :: _) W := hL.tail.tail.tail.tail.tail.tail.tail.tail
  exact (strs_of_head (g := 0) (t := 132) (e := 9) (by kernel_rfl) (by kernel_rfl) Tryz.underlying132 Tryz.underlying9 (by kernel_rfl) (by kernel_rfl) hk).cell (by kernel_rfl)
theorem goodN_of {W : World} (h : laidMetH Tryz.prog laidList W) (hs : W.ShapedOpen Tryz.prog) : GoodN W := ⟨good_of h hs, namesL_of h⟩
theorem goodD_of {W : World} (h : laidMetH Tryz.prog laidList W) (hs : W.ShapedOpen Tryz.prog) : GoodD W := ⟨goodN_of h hs, clsL_of h, sidesL_of h 0 _ rfl, sidesL_of h 1 _ rfl⟩
end Go.Proofs.YteciigbonaecoaaGreatDoor
namespace Go.Proofs.YteciigbonaecoaaGreatDoor
open Go.ChangeShapes Go.WideShapes Go.ChangeAt Go.RowKit Go.Ab
noncomputable def low : Nat := (World.holding Tryz.prog default ⟨#[], #[], []⟩).heap.size
/-- The cells of a laid table, in text order. -/
def flat (d : DataW Unit) : Array Value :=
  let one : DataW Unit → List Value := fun
    | .lit (.int k z) => [.int k z]
    | .lit (.string s) => [.string ⟨s.toArray⟩]
    | _ => []
  match d with
  | .agg l => (l.flatMap fun
    | .agg l2 => l2.flatMap one
    | x => one x).toArray
  | _ => #[]
noncomputable def laidWorld (os : Os) : World :=
  let w0 := World.holding Tryz.prog os ⟨#[.cells #[.string ⟨#[118, 97, 108, 117, 101, 32, 111, 117, 116, 32, 111, 102, 32, 114, 97, 110, 103, 101]⟩] 275, .cells #[.string ⟨#[105, 110, 118, 97, 108, 105, 100, 32, 115, 121, 110, 116, 97, 120]⟩] 275], #[], []⟩
  let put (h : Array Obj) (g : Nat) (cs : Array Value) : Array Obj := h.modify g fun
    | .cells _ t frozen => .cells cs t frozen
    | o => o
  let h1 := put w0.heap 11 (flat Rows.laid_math_bits_deBruijn32tab)
  let h2 := put h1 12 (flat Rows.laid_math_bits_deBruijn64tab)
  let h3 := put h2 6 (flat Rows.laid_internal_strconv_uint64pow10)
  let h4 := put h3 9 (flat Rows.laid_unicode_utf8_acceptRanges)
  let h5 := put h4 3 (flat Rows.laid_baffle_pkt_names)
  let h6 := put h5 2 (flat Rows.laid_baffle_assured_names)
  let h7 := put h6 5 #[.iface 273 (.pointer (some ⟨low, 0, none⟩))]
  let h8 := put h7 4 #[.iface 273 (.pointer (some ⟨low + 1, 0, none⟩))]
  let h9 := put h8 0 (flat Rows.laid_baffle_dump_sides)
  let h10 := put h9 8 (flat Rows.laid_unicode_utf8_first)
  { w0 with heap := h10 }
set_option maxRecDepth 100000 in
theorem laid_met (os : Os) (args : Array Value) : laidMet Tryz.prog laidList ((laidWorld os).forCall (fun _ _ => 0) ⟨#[], args, []⟩).memory :=
  laidMet_of_run' 8 (by kernel_rfl) (by kernel_rfl)
end Go.Proofs.YteciigbonaecoaaGreatDoor
namespace Go.Proofs.YteciigbonaecoaaGreatDoor
open Go.ChangeShapes Go.WideShapes Go.ChangeAt Go.RowKit Go.Ab Go.Joins
open Go.Deep
end Go.Proofs.YteciigbonaecoaaGreatDoor
namespace Go.Ab
open Go.Proofs.YteciigbonaecoaaGreatDoor
structure ChB (c : Ch) : Prop where
  k0 : 0 ≤ c.kind
  k1 : c.kind < 256
  old : LnB c.old
  new : LnB c.new
end Go.Ab
namespace Go.Proofs.YteciigbonaecoaaGreatDoor
open Go.ChangeShapes Go.WideShapes Go.ChangeAt Go.RowKit Go.Ab Go.Joins
open Go.Deep
section
variable {H : Type} {enc : TypeId × Value → H} {W : World} {base : Nat} {sp : Nat → Bool} {held : Bool}
theorem u8b {n : Int} (h : (Lit.int .u8 n).wf = true) : 0 ≤ n ∧ n < 256 := by have := bounds_u8 h; omega
theorem u16b {n : Int} (h : (Lit.int .u16 n).wf = true) : 0 ≤ n ∧ n < 65536 := by have := bounds_u16 h; omega
theorem u32b {n : Int} (h : (Lit.int .u32 n).wf = true) : 0 ≤ n ∧ n < 4294967296 := by have := bounds_u32 h; omega
theorem i64b {n : Int} (h : (Lit.int .i64 n).wf = true) : -9223372036854775808 ≤ n ∧ n ≤ 9223372036854775807 := by
  simp [Lit.wf, IntKind.min, IntKind.max, IntKind.signed, IntKind.bits] at h; omega
theorem cells_Ln : Tryz.prog.cellsOf 44 = 11 := by kernel_rfl
theorem cells_Ch : Tryz.prog.cellsOf 71 = 23 := by kernel_rfl
set_option maxRecDepth 100000 in
theorem fields5 {P : Program} {w : World} {t : TypeId} {f0 f1 f2 f3 f4 : Field} {fuel : Nat} {cs : List Value} {x : DataW H × List MemPlace} (hs : P.underlying t = some (.struct #[f0, f1, f2, f3, f4])) (hone : oneCellFields P #[f0, f1, f2, f3, f4] = true) (h : DataW.trod enc P w base sp held fuel t cs = some x) (hl : cs.length = 5) :
    ∃ (c0 c1 c2 c3 c4 : Value) (y0 y1 y2 y3 y4 : DataW H × List MemPlace) (n : Nat), cs = [c0, c1, c2, c3, c4] ∧ DataW.trod enc P w base sp held n f0.type [c0] = some y0 ∧ DataW.trod enc P w base sp held n f1.type [c1] = some y1 ∧ DataW.trod enc P w base sp held n f2.type [c2] = some y2 ∧ DataW.trod enc P w base sp held n f3.type [c3] = some y3 ∧ DataW.trod enc P w base sp held n f4.type [c4] = some y4 := by
  obtain ⟨xs, n, _, hx, _, hlen, hh⟩ := DataW.trod_struct hs h
  match cs, hl, xs, hlen with
  | [c0, c1, c2, c3, c4], _, [y0, y1, y2, y3, y4], _ =>
    obtain ⟨o0, k0⟩ := hone_of hone 0 f0 rfl
    obtain ⟨o1, k1⟩ := hone_of hone 1 f1 rfl
    obtain ⟨o2, k2⟩ := hone_of hone 2 f2 rfl
    obtain ⟨o3, k3⟩ := hone_of hone 3 f3 rfl
    obtain ⟨o4, k4⟩ := hone_of hone 4 f4 rfl
    exact ⟨c0, c1, c2, c3, c4, y0, y1, y2, y3, y4, n, rfl, by simpa [o0, k0] using hh 0 f0 rfl, by simpa [o1, k1] using hh 1 f1 rfl, by simpa [o2, k2] using hh 2 f2 rfl, by simpa [o3, k3] using hh 3 f3 rfl, by simpa [o4, k4] using hh 4 f4 rfl⟩
set_option maxRecDepth 100000 in
theorem fields_ln {P : Program} {w : World} {t : TypeId} {f0 f1 f2 f3 f4 f5 f6 : Field} {fuel : Nat} {cs : List Value} {x : DataW H × List MemPlace} (hs : P.underlying t = some (.struct #[f0, f1, f2, f3, f4, f5, f6])) (ho : f0.offset = 0 ∧ f1.offset = 5 ∧ f2.offset = 6 ∧ f3.offset = 7 ∧ f4.offset = 8 ∧ f5.offset = 9 ∧ f6.offset = 10) (hc : P.cellsOf f0.type = 5 ∧ P.cellsOf f1.type = 1 ∧ P.cellsOf f2.type = 1 ∧ P.cellsOf f3.type = 1 ∧ P.cellsOf f4.type = 1 ∧ P.cellsOf f5.type = 1 ∧ P.cellsOf f6.type = 1) (h : DataW.trod enc P w base sp held fuel t cs = some x) (hl : cs.length = 11) :
    ∃ (c0 c1 c2 c3 c4 c5 c6 c7 c8 c9 c10 : Value) (y0 y1 y2 y3 y4 y5 y6 : DataW H × List MemPlace) (n : Nat), cs = [c0, c1, c2, c3, c4, c5, c6, c7, c8, c9, c10] ∧ DataW.trod enc P w base sp held n f0.type [c0, c1, c2, c3, c4] = some y0 ∧ DataW.trod enc P w base sp held n f1.type [c5] = some y1 ∧ DataW.trod enc P w base sp held n f2.type [c6] = some y2 ∧ DataW.trod enc P w base sp held n f3.type [c7] = some y3 ∧ DataW.trod enc P w base sp held n f4.type [c8] = some y4 ∧ DataW.trod enc P w base sp held n f5.type [c9] = some y5 ∧ DataW.trod enc P w base sp held n f6.type [c10] = some y6 := by
  obtain ⟨xs, n, _, hx, _, hlen, hh⟩ := DataW.trod_struct hs h
  obtain ⟨o0, o1, o2, o3, o4, o5, o6⟩ := ho
  obtain ⟨k0, k1, k2, k3, k4, k5, k6⟩ := hc
  match cs, hl, xs, hlen with
  | [c0, c1, c2, c3, c4, c5, c6, c7, c8, c9, c10], _, [y0, y1, y2, y3, y4, y5, y6], _ =>
    exact ⟨c0, c1, c2, c3, c4, c5, c6, c7, c8, c9, c10, y0, y1, y2, y3, y4, y5, y6, n, rfl, by simpa [o0, k0] using hh 0 f0 rfl, by simpa [o1, k1] using hh 1 f1 rfl, by simpa [o2, k2] using hh 2 f2 rfl, by simpa [o3, k3] using hh 3 f3 rfl, by simpa [o4, k4] using hh 4 f4 rfl, by simpa [o5, k5] using hh 5 f5 rfl, by simpa [o6, k6] using hh 6 f6 rfl⟩
set_option maxRecDepth 100000 in
/-- The cells of a line. -/
theorem open_line_at {fuel : Nat} {cs : List Value} {x : DataW H × List MemPlace} (h : DataW.trod enc Tryz.prog W base sp held fuel 44 cs = some x) (hl : cs.length = 11) : ∃ y : Ln, cs = y.cells ∧ LnB y := by
  obtain ⟨c0, c1, c2, c3, c4, c5, c6, c7, c8, c9, c10, y0, y1, y2, y3, y4, y5, y6, n, rfl, h0, h1, h2, h3, h4, h5, h6⟩ := fields_ln Tryz.underlying44 ⟨rfl, rfl, rfl, rfl, rfl, rfl, rfl⟩ ⟨by kernel_rfl, by kernel_rfl, by kernel_rfl, by kernel_rfl, by kernel_rfl, by kernel_rfl, by kernel_rfl⟩ h hl
  obtain ⟨z5, e5, _, w5⟩ := DataW.trod_int Tryz.underlying5 h1
  obtain ⟨z6, e6, _, w6⟩ := DataW.trod_int Tryz.underlying5 h2
  obtain ⟨z7, e7, _⟩ := DataW.trod_bool Tryz.underlying4 h3
  obtain ⟨z8, e8, _⟩ := DataW.trod_bool Tryz.underlying4 h4
  obtain ⟨z9, e9, _, w9⟩ := DataW.trod_int Tryz.underlying3 h5
  obtain ⟨z10, e10, _, w10⟩ := DataW.trod_int Tryz.underlying3 h6
  obtain ⟨d3, d4, d5, d6, d7, v3, v4, v5, v6, v7, n', hk, k3, k4, k5, k6, k7⟩ := fields5 Tryz.underlying34 (by kernel_rfl) h0 rfl
  simp only [List.cons.injEq, and_true] at hk
  obtain ⟨rfl, rfl, rfl, rfl, rfl⟩ := hk
  obtain ⟨z0, e0, _, w0⟩ := DataW.trod_int Tryz.underlying5 k3
  obtain ⟨z1, e1, _, w1⟩ := DataW.trod_int Tryz.underlying31 k4
  obtain ⟨z2, e2, _, w2⟩ := DataW.trod_int Tryz.underlying31 k5
  obtain ⟨z3, e3, _, w3⟩ := DataW.trod_int Tryz.underlying32 k6
  obtain ⟨z4, e4, _, w4⟩ := DataW.trod_int Tryz.underlying32 k7
  simp only [List.cons.injEq, and_true] at e0 e1 e2 e3 e4 e5 e6 e7 e8 e9 e10
  subst e0 e1 e2 e3 e4 e5 e6 e7 e8 e9 e10
  exact ⟨⟨z0, z1, z2, z3, z4, z5, z6, z7, z8, z9, z10⟩, rfl, ⟨⟨(u8b w0).1, (u8b w0).2, (u32b w1).1, (u32b w1).2, (u32b w2).1, (u32b w2).2, (u16b w3).1, (u16b w3).2, (u16b w4).1, (u16b w4).2⟩, (u8b w5).1, (u8b w5).2, (u8b w6).1, (u8b w6).2, (i64b w9).1, (i64b w9).2, (i64b w10).1, (i64b w10).2⟩⟩
set_option maxRecDepth 100000 in
theorem open_line {r : Reach} {b0 : Nat} {v : Value} {d : DataW H} {p : List MemPlace} (hv : Value.okWide Tryz.prog W r b0 44 v) (h : DataW.Trod enc Tryz.prog W base sp held 44 v d p) : ∃ y : Ln, v = y.val ∧ LnB y := by
  obtain ⟨cs, rfl, hsz⟩ := okWide_struct Tryz.underlying44 hv
  obtain ⟨fuel, hf⟩ := h
  obtain ⟨y, he, hb⟩ := open_line_at hf (by simpa [Value.cells] using hsz.trans cells_Ln)
  refine ⟨y, ?_, hb⟩
  have : cs = y.cells.toArray := by rw [← he]; rfl
  rw [this]; rfl
theorem choose_list2 {α : Type} (P : Nat → α → Prop) : ∀ n, (∀ i, i < n → ∃ y, P i y) → ∃ l : List α, l.length = n ∧ ∀ i y, l[i]? = some y → P i y
  | 0, _ => ⟨[], rfl, fun i y h => by simp at h⟩
  | n + 1, h => by
    obtain ⟨l, hl, hp⟩ := choose_list2 P n (fun i hi => h i (by omega))
    obtain ⟨y, hy⟩ := h n (by omega)
    refine ⟨l ++ [y], by simp [hl], fun i z hz => ?_⟩
    rcases Nat.lt_or_ge i n with h1 | h1
    · rw [List.getElem?_append_left (by omega)] at hz
      exact hp i z hz
    · have : i = n := by
        have := (List.getElem?_eq_some_iff.1 hz).1
        simp [hl] at this; omega
      subst this
      rw [List.getElem?_append_right (by omega), hl, Nat.sub_self] at hz
      simp at hz
      exact hz ▸ hy
set_option maxRecDepth 100000 in
theorem open_lines {r : Reach} {b0 : Nat} {v : Value} {d : DataW H} {p : List MemPlace} (hv : Value.okWide Tryz.prog W r b0 22 v) (h : DataW.Trod enc Tryz.prog W base sp held 22 v d p) : ∃ l : List Ln, LnRow W v l ∧ (∀ x ∈ l, LnB x) ∧ l.length ≤ maxLen := by
  obtain ⟨a0, len0, cap0, rfl⟩ := okWide_slice Tryz.underlying22 hv
  obtain ⟨fuel, hf⟩ := h
  rcases open_slice Tryz.underlying22 hf with ⟨h0, _⟩ | ⟨a, len, cap, m, n, D, Pl, hcs, hb, hl, hm, hmm, hx, hi⟩
  · simp only [Value.cells, List.cons.injEq, and_true] at h0
    rw [h0]
    exact ⟨[], RowOf.nil W, fun x hx => (List.not_mem_nil hx).elim, Nat.zero_le _⟩
  · simp only [Value.cells, List.cons.injEq, and_true] at hcs
    rw [hcs]
    have hlm : len ≤ m := by rw [hmm]; split <;> omega
    obtain ⟨b, o, s⟩ := a
    have hall : ∀ i, i < len → ∃ y : Ln, LnB y ∧ s = none ∧ b < W.heap.size ∧ ∀ (j : Nat) u, y.cells[j]? = some u → W.cell? ⟨b, o + i * 11 + j, none⟩ = some u := by
      intro i hil
      obtain ⟨cs', hc, ht⟩ := hi i (by omega)
      rw [cells_Ln] at hc
      obtain ⟨_, hcl, hat⟩ := World.cells?_some hc
      obtain ⟨y, rfl, hyb⟩ := open_line_at ht (by simpa using hcl)
      have h0 := hat 0 (by omega)
      have hi0 : s = none := by
        obtain ⟨cs0, hc0, ht0⟩ := hi 0 (by omega)
        rw [cells_Ln] at hc0
        obtain ⟨_, hcl0, hat0⟩ := World.cells?_some hc0
        have := hat0 0 (by omega)
        rw [List.getElem?_eq_getElem (by omega)] at this
        simpa [Addr.add] using World.cell?_spot this
      subst hi0
      have hcell : ∀ (j : Nat) u, y.cells[j]? = some u → W.cell? ⟨b, o + i * 11 + j, none⟩ = some u := by
        intro j u hj
        have hj8 : j < 11 := (List.getElem?_eq_some_iff.1 hj).1
        have := hat j hj8
        rw [hj] at this
        rw [← this]
        congr 1
        unfold Addr.add
        by_cases h1 : i * 11 = 0
        · rw [if_pos h1]
          by_cases h2 : j = 0
          · rw [if_pos h2, h1, h2]; rfl
          · rw [if_neg h2, h1, Nat.add_zero]
        · rw [if_neg h1]
          by_cases h2 : j = 0
          · rw [if_pos h2]; simp [h2]
          · rw [if_neg h2]
      exact ⟨y, hyb, rfl, cell_lt' (hcell 0 _ rfl), hcell⟩
    obtain ⟨l, hl2, hp⟩ := choose_list2 _ len hall
    refine ⟨l, ⟨some ⟨b, o, s⟩, cap, by rw [hl2], by rw [hl2]; exact hl, fun i e he => ?_⟩, fun x hx => ?_, by rw [hl2]; omega⟩
    · obtain ⟨_, h1, h2, h3⟩ := hp i e he
      subst h1
      exact ⟨b, o, rfl, h2, h3⟩
    · obtain ⟨i, hi⟩ := List.getElem?_of_mem hx
      exact (hp i x hi).1
set_option maxRecDepth 100000 in
theorem fields_ch {P : Program} {w : World} {t : TypeId} {f0 f1 f2 : Field} {fuel : Nat} {cs : List Value} {x : DataW H × List MemPlace} (hs : P.underlying t = some (.struct #[f0, f1, f2])) (ho : f0.offset = 0 ∧ f1.offset = 1 ∧ f2.offset = 12) (hc : P.cellsOf f0.type = 1 ∧ P.cellsOf f1.type = 11 ∧ P.cellsOf f2.type = 11) (h : DataW.trod enc P w base sp held fuel t cs = some x) (hl : cs.length = 23) :
    ∃ (c0 c1 c2 c3 c4 c5 c6 c7 c8 c9 c10 c11 c12 c13 c14 c15 c16 c17 c18 c19 c20 c21 c22 : Value) (y0 y1 y2 : DataW H × List MemPlace) (n : Nat), cs = [c0, c1, c2, c3, c4, c5, c6, c7, c8, c9, c10, c11, c12, c13, c14, c15, c16, c17, c18, c19, c20, c21, c22] ∧ DataW.trod enc P w base sp held n f0.type [c0] = some y0 ∧ DataW.trod enc P w base sp held n f1.type [c1, c2, c3, c4, c5, c6, c7, c8, c9, c10, c11] = some y1 ∧ DataW.trod enc P w base sp held n f2.type [c12, c13, c14, c15, c16, c17, c18, c19, c20, c21, c22] = some y2 := by
  obtain ⟨xs, n, _, hx, _, hlen, hh⟩ := DataW.trod_struct hs h
  obtain ⟨o0, o1, o2⟩ := ho
  obtain ⟨k0, k1, k2⟩ := hc
  match cs, hl, xs, hlen with
  | [c0, c1, c2, c3, c4, c5, c6, c7, c8, c9, c10, c11, c12, c13, c14, c15, c16, c17, c18, c19, c20, c21, c22], _, [y0, y1, y2], _ =>
    exact ⟨c0, c1, c2, c3, c4, c5, c6, c7, c8, c9, c10, c11, c12, c13, c14, c15, c16, c17, c18, c19, c20, c21, c22, y0, y1, y2, n, rfl, by simpa [o0, k0] using hh 0 f0 rfl, by simpa [o1, k1] using hh 1 f1 rfl, by simpa [o2, k2] using hh 2 f2 rfl⟩
set_option maxRecDepth 100000 in
/-- The cells of a change. -/
theorem open_change_at {fuel : Nat} {cs : List Value} {x : DataW H × List MemPlace} (h : DataW.trod enc Tryz.prog W base sp held fuel 71 cs = some x) (hl : cs.length = 23) : ∃ y : Ch, cs = y.cells ∧ ChB y := by
  obtain ⟨c0, c1, c2, c3, c4, c5, c6, c7, c8, c9, c10, c11, c12, c13, c14, c15, c16, c17, c18, c19, c20, c21, c22, y0, y1, y2, n, rfl, h0, h1, h2⟩ := fields_ch Tryz.underlying71 ⟨rfl, rfl, rfl⟩ ⟨by kernel_rfl, by kernel_rfl, by kernel_rfl⟩ h hl
  obtain ⟨z0, e0, _, w0⟩ := DataW.trod_int Tryz.underlying5 h0
  obtain ⟨a, ea, ba⟩ := open_line_at h1 rfl
  obtain ⟨b, eb, bb⟩ := open_line_at h2 rfl
  simp only [List.cons.injEq, and_true] at e0
  refine ⟨⟨z0, a, b⟩, ?_, (u8b w0).1, (u8b w0).2, ba, bb⟩
  show _ = .int .u8 z0 :: (a.cells ++ b.cells)
  rw [← ea, ← eb, e0]; rfl
set_option maxRecDepth 100000 in
theorem open_changes {r : Reach} {b0 : Nat} {v : Value} {d : DataW H} {p : List MemPlace} (hv : Value.okWide Tryz.prog W r b0 61 v) (h : DataW.Trod enc Tryz.prog W base sp held 61 v d p) : ∃ l : List Ch, ChRow W v l ∧ (∀ x ∈ l, ChB x) ∧ l.length ≤ maxLen := by
  obtain ⟨a0, len0, cap0, rfl⟩ := okWide_slice Tryz.underlying61 hv
  obtain ⟨fuel, hf⟩ := h
  rcases open_slice Tryz.underlying61 hf with ⟨h0, _⟩ | ⟨a, len, cap, m, n, D, Pl, hcs, hb, hl, hm, hmm, hx, hi⟩
  · simp only [Value.cells, List.cons.injEq, and_true] at h0
    rw [h0]
    exact ⟨[], RowOf.nil W, fun x hx => (List.not_mem_nil hx).elim, Nat.zero_le _⟩
  · simp only [Value.cells, List.cons.injEq, and_true] at hcs
    rw [hcs]
    have hlm : len ≤ m := by rw [hmm]; split <;> omega
    obtain ⟨b, o, s⟩ := a
    have hall : ∀ i, i < len → ∃ y : Ch, ChB y ∧ s = none ∧ b < W.heap.size ∧ ∀ (j : Nat) u, y.cells[j]? = some u → W.cell? ⟨b, o + i * 23 + j, none⟩ = some u := by
      intro i hil
      obtain ⟨cs', hc, ht⟩ := hi i (by omega)
      rw [cells_Ch] at hc
      obtain ⟨_, hcl, hat⟩ := World.cells?_some hc
      obtain ⟨y, rfl, hyb⟩ := open_change_at ht (by simpa using hcl)
      have h0 := hat 0 (by omega)
      have hi0 : s = none := by
        obtain ⟨cs0, hc0, ht0⟩ := hi 0 (by omega)
        rw [cells_Ch] at hc0
        obtain ⟨_, hcl0, hat0⟩ := World.cells?_some hc0
        have := hat0 0 (by omega)
        rw [List.getElem?_eq_getElem (by omega)] at this
        simpa [Addr.add] using World.cell?_spot this
      subst hi0
      have hcell : ∀ (j : Nat) u, y.cells[j]? = some u → W.cell? ⟨b, o + i * 23 + j, none⟩ = some u := by
        intro j u hj
        have hj8 : j < 23 := (List.getElem?_eq_some_iff.1 hj).1
        have := hat j hj8
        rw [hj] at this
        rw [← this]
        congr 1
        unfold Addr.add
        by_cases h1 : i * 23 = 0
        · rw [if_pos h1]
          by_cases h2 : j = 0
          · rw [if_pos h2, h1, h2]; rfl
          · rw [if_neg h2, h1, Nat.add_zero]
        · rw [if_neg h1]
          by_cases h2 : j = 0
          · rw [if_pos h2]; simp [h2]
          · rw [if_neg h2]
      exact ⟨y, hyb, rfl, cell_lt' (hcell 0 _ rfl), hcell⟩
    obtain ⟨l, hl2, hp⟩ := choose_list2 _ len hall
    refine ⟨l, ⟨some ⟨b, o, s⟩, cap, by rw [hl2], by rw [hl2]; exact hl, fun i e he => ?_⟩, fun x hx => ?_, by rw [hl2]; omega⟩
    · obtain ⟨_, h1, h2, h3⟩ := hp i e he
      subst h1
      exact ⟨b, o, rfl, h2, h3⟩
    · obtain ⟨i, hi⟩ := List.getElem?_of_mem hx
      exact (hp i x hi).1
end
end Go.Proofs.YteciigbonaecoaaGreatDoor
namespace Go.Ab
open Go.RowKit Go.Proofs.YteciigbonaecoaaGreatDoor
theorem ln_ne_at {a b : List Ln} {k : Nat} {x y : Ln} (ha : a[k]? = some x) (hb : b[k]? = some y) (h : ¬ x = y) : (a == b) = false := by
  rw [beq_eq_false_iff_ne]
  rintro rfl
  rw [ha] at hb
  exact h (by simpa using hb)
end Go.Ab
namespace Go.Proofs.YteciigbonaecoaaGreatDoor
open Go.RowKit Go.Ab
theorem lnSizeS : (Tryz.prog.info? 44).map (·.size) = some 11 := by kernel_rfl
theorem eq_ln (x y : Ln) (w : World) : (Op.equalIn 10000 44 (.agg x.cells.toArray) (.agg y.cells.toArray)).run Tryz.prog w = .ok (decide (x = y)) w := by
  obtain ⟨p1, p2, p3, p4, p5, p6, p7, p8, p9, p10, p11⟩ := x
  obtain ⟨r1, r2, r3, r4, r5, r6, r7, r8, r9, r10, r11⟩ := y
  refine (eq_line w _ _ _ _ _ _ _ _ _ _ _ _ _ _ _ _ _ _ _ _ _ _).trans (congrArg (Result.ok · w) ?_)
  rw [Bool.eq_iff_iff]
  simp
set_option maxHeartbeats 8000000 in
set_option maxRecDepth 100000 in
theorem dsame_any (a b : List Ln) (va vb : Value) (w : World) (ha : LnRow w va a) (hb : LnRow w vb b) (la : a.length ≤ 1000000) (lb : b.length ≤ 1000000) : Gives Tryz.prog 21 #[va, vb] w (.bool (a == b)) := by
  obtain ⟨p, cap, rfl, hle, hc⟩ := ha
  obtain ⟨q, cap2, rfl, hle2, hd⟩ := hb
  obtain ⟨N, hN⟩ : ∃ N, a.length = N := ⟨_, rfl⟩
  obtain ⟨M, hM⟩ : ∃ M, b.length = M := ⟨_, rfl⟩
  rw [hN] at hle la ⊢
  rw [hM] at hle2 lb ⊢
  have HN := Lib.hid hN
  have HM := Lib.hid hM
  have Hc := Lib.hid hc
  have Hd := Lib.hid hd
  clear hN hM hc hd
  unfold Gives
  by_cases hNM : N = M
  · subst hNM
    go_enter Tryz.func21, Tryz.ntmps21
    go_wp2_with fail
    go_loopw [13] (fun i wr => ∃ k : Nat, k ≤ N ∧ i = .int .i64 (k : Int) ∧ Hid (∀ j, j < k → a[j]? = b[j]?) ∧ ∃ x : Ext w, wr = x.w) (fun i _ => N - (intOf i).toNat)
    case atStart => exact ⟨0, Nat.zero_le _, rfl, Lib.hid (fun j hj => absurd hj (Nat.not_lt_zero j)), (Up.refl w).mk⟩
    case round =>
      obtain ⟨k, hk, rfl, Hk, x0, rfl⟩ := hrel
      by_cases hlt : k < N
      · have hlt' : (k : Int) < (N : Int) := by omega
        have k0 : (0 : Int) ≤ (k : Int) := by omega
        obtain ⟨x, hs⟩ : ∃ x, a[k]? = some x := ⟨_, List.getElem?_eq_getElem (by rw [HN.out]; exact hlt)⟩
        obtain ⟨y, ht⟩ : ∃ y, b[k]? = some y := ⟨_, List.getElem?_eq_getElem (by rw [HM.out]; exact hlt)⟩
        obtain ⟨b1, o1, rfl, hb1, hc1⟩ := Hc.out k x hs
        obtain ⟨b2, o2, rfl, hb2, hc2⟩ := Hd.out k y ht
        haveI : LtSize b1 w := ⟨hb1⟩
        haveI : LtSize b2 w := ⟨hb2⟩
        have Hs := Lib.hid hs
        have Ht := Lib.hid ht
        have hX : x0.w.rangeAt b1 (o1 + k * 11) x.cells := fun j u hj => x0.up.cell_some (hc1 j u hj)
        have hY : x0.w.rangeAt b2 (o2 + k * 11) y.cells := fun j u hj => x0.up.cell_some (hc2 j u hj)
        have hEq0 := fun W => eq_ln x y W
        clear hc1 hc2 hs ht
        by_cases he : x = y
        · have E := Lib.hid (show a[k]? = b[k]? by rw [Hs.out, Ht.out, he])
          have hEq : ∀ W, (Op.equalIn 10000 44 (.agg x.cells.toArray) (.agg y.cells.toArray)).run Tryz.prog W = .ok true W := fun W => by rw [hEq0, decide_eq_true he]
          clear he hEq0
          go_wp2_with fail
          refine wp_region_rel2 (relAt [isV (.slice (some ⟨b1, o1, none⟩) N cap), isV (.int .i64 (k : Int)), isV (.pointer (some ⟨b1, o1 + k * 11, none⟩)), isV (.agg x.cells.toArray), isV (.slice (some ⟨b2, o2, none⟩) N cap2), isV (.int .i64 (k : Int)), isV (.pointer (some ⟨b2, o2 + k * 11, none⟩)), isV (.agg y.cells.toArray), isV (.bool false)]) [16, 17, 18, 19, 20, 21, 22, 23, 24] 26 (by kernel_rfl) (by kernel_rfl) (by kernel_rfl) rfl (relAt_mono ?hmono) ⟨?o0, ?o1, ?o2, ?o3, ?o4, ?o5, ?o6, ?o7, ?o8, trivial⟩ ?hend
          case hmono =>
            intro r hr v W1 W2 h1 hu
            simp only [List.mem_cons, List.not_mem_nil, or_false] at hr
            rcases hr with rfl | rfl | rfl | rfl | rfl | rfl | rfl | rfl | rfl
            all_goals exact h1
          case o0 =>
            intro vs W' F Y E hu hd
            have s0 := E.eout 0 (.slice (some ⟨b1, o1, none⟩) N cap) rfl rfl
            exact rel_val (v := .slice (some ⟨b1, o1, none⟩) N cap) rfl (by simp [go_sem, s0]) (Up.refl _) rfl
          case o1 =>
            intro vs W' F Y E hu hd
            have s0 := E.eout 5 (.int .i64 (k : Int)) rfl rfl
            exact rel_val (v := .int .i64 (k : Int)) rfl (by simp [go_sem, s0]) (Up.refl _) rfl
          case o2 =>
            intro vs W' F Y E hu hd
            have d0 : vs 0 = .slice (some ⟨b1, o1, none⟩) N cap := hd ⟨0, .data⟩ (by simp) rfl
            have t0 := E.ein 0 16 _ rfl (by decide) d0
            have d1 : vs 1 = .int .i64 (k : Int) := hd ⟨1, .data⟩ (by simp) rfl
            have t1 := E.ein 1 17 _ rfl (by decide) d1
            exact rel_val (v := .pointer (some ⟨b1, o1 + k * 11, none⟩)) rfl (by simp [go_sem, t0, t1, k0, hlt']) (Up.refl _) rfl
          case o3 =>
            intro vs W' F Y E hu hd
            have d2 : vs 2 = .pointer (some ⟨b1, o1 + k * 11, none⟩) := hd ⟨2, .data⟩ (by simp) rfl
            have t2 := E.ein 2 18 _ rfl (by decide) d2
            exact rel_load rfl _ _ rfl b1 (o1 + k * 11) (by simp [go_sem, t2]) x.cells _ (fun j u hj => hu.cell_some (hX j u hj)) Tryz.underlying44 rfl lnSizeS rfl
          case o4 =>
            intro vs W' F Y E hu hd
            have s0 := E.eout 1 (.slice (some ⟨b2, o2, none⟩) N cap2) rfl rfl
            exact rel_val (v := .slice (some ⟨b2, o2, none⟩) N cap2) rfl (by simp [go_sem, s0]) (Up.refl _) rfl
          case o5 =>
            intro vs W' F Y E hu hd
            have s0 := E.eout 5 (.int .i64 (k : Int)) rfl rfl
            exact rel_val (v := .int .i64 (k : Int)) rfl (by simp [go_sem, s0]) (Up.refl _) rfl
          case o6 =>
            intro vs W' F Y E hu hd
            have d4 : vs 4 = .slice (some ⟨b2, o2, none⟩) N cap2 := hd ⟨4, .data⟩ (by simp) rfl
            have t4 := E.ein 4 20 _ rfl (by decide) d4
            have d5 : vs 5 = .int .i64 (k : Int) := hd ⟨5, .data⟩ (by simp) rfl
            have t5 := E.ein 5 21 _ rfl (by decide) d5
            exact rel_val (v := .pointer (some ⟨b2, o2 + k * 11, none⟩)) rfl (by simp [go_sem, t4, t5, k0, hlt']) (Up.refl _) rfl
          case o7 =>
            intro vs W' F Y E hu hd
            have d6 : vs 6 = .pointer (some ⟨b2, o2 + k * 11, none⟩) := hd ⟨6, .data⟩ (by simp) rfl
            have t6 := E.ein 6 22 _ rfl (by decide) d6
            exact rel_load rfl _ _ rfl b2 (o2 + k * 11) (by simp [go_sem, t6]) y.cells _ (fun j u hj => hu.cell_some (hY j u hj)) Tryz.underlying44 rfl lnSizeS rfl
          case o8 =>
            intro vs W' F Y E hu hd
            have d3 : vs 3 = .agg x.cells.toArray := hd ⟨3, .data⟩ (by simp) rfl
            have t3 := E.ein 3 19 _ rfl (by decide) d3
            have d7 : vs 7 = .agg y.cells.toArray := hd ⟨7, .data⟩ (by simp) rfl
            have t7 := E.ein 7 23 _ rfl (by decide) d7
            exact rel_val (v := .bool false) rfl (by simp [go_sem, t3, t7, hEq]) (Up.refl _) rfl
          case hend =>
            intro vs W' hu hall
            have d8 : vs 8 = .bool false := hall 8 (by simp)
            obtain ⟨x9, rfl⟩ := hu.mk
            simp only [fillL, Act.put, List.setIfInBounds_toArray, List.set_cons_zero, List.set_cons_succ, d8]
            go_wp2_with fail
            go_roundw
            case rel => exact ⟨k + 1, by omega, by go_num, Lib.hid (fun j hj => by rcases Nat.lt_or_eq_of_le (Nat.le_of_lt_succ hj) with h | h; exact Hk.out j h; rw [h]; exact E.out), mkI⟩
            case measure => simp [intOf]; omega
        · have E := Lib.hid (ln_ne_at Hs.out Ht.out he)
          have hEq : ∀ W, (Op.equalIn 10000 44 (.agg x.cells.toArray) (.agg y.cells.toArray)).run Tryz.prog W = .ok false W := fun W => by rw [hEq0, decide_eq_false he]
          clear he hEq0
          go_wp2_with fail
          refine wp_region_rel2 (relAt [isV (.slice (some ⟨b1, o1, none⟩) N cap), isV (.int .i64 (k : Int)), isV (.pointer (some ⟨b1, o1 + k * 11, none⟩)), isV (.agg x.cells.toArray), isV (.slice (some ⟨b2, o2, none⟩) N cap2), isV (.int .i64 (k : Int)), isV (.pointer (some ⟨b2, o2 + k * 11, none⟩)), isV (.agg y.cells.toArray), isV (.bool true)]) [16, 17, 18, 19, 20, 21, 22, 23, 24] 26 (by kernel_rfl) (by kernel_rfl) (by kernel_rfl) rfl (relAt_mono ?hmono) ⟨?o0, ?o1, ?o2, ?o3, ?o4, ?o5, ?o6, ?o7, ?o8, trivial⟩ ?hend
          case hmono =>
            intro r hr v W1 W2 h1 hu
            simp only [List.mem_cons, List.not_mem_nil, or_false] at hr
            rcases hr with rfl | rfl | rfl | rfl | rfl | rfl | rfl | rfl | rfl
            all_goals exact h1
          case o0 =>
            intro vs W' F Y E hu hd
            have s0 := E.eout 0 (.slice (some ⟨b1, o1, none⟩) N cap) rfl rfl
            exact rel_val (v := .slice (some ⟨b1, o1, none⟩) N cap) rfl (by simp [go_sem, s0]) (Up.refl _) rfl
          case o1 =>
            intro vs W' F Y E hu hd
            have s0 := E.eout 5 (.int .i64 (k : Int)) rfl rfl
            exact rel_val (v := .int .i64 (k : Int)) rfl (by simp [go_sem, s0]) (Up.refl _) rfl
          case o2 =>
            intro vs W' F Y E hu hd
            have d0 : vs 0 = .slice (some ⟨b1, o1, none⟩) N cap := hd ⟨0, .data⟩ (by simp) rfl
            have t0 := E.ein 0 16 _ rfl (by decide) d0
            have d1 : vs 1 = .int .i64 (k : Int) := hd ⟨1, .data⟩ (by simp) rfl
            have t1 := E.ein 1 17 _ rfl (by decide) d1
            exact rel_val (v := .pointer (some ⟨b1, o1 + k * 11, none⟩)) rfl (by simp [go_sem, t0, t1, k0, hlt']) (Up.refl _) rfl
          case o3 =>
            intro vs W' F Y E hu hd
            have d2 : vs 2 = .pointer (some ⟨b1, o1 + k * 11, none⟩) := hd ⟨2, .data⟩ (by simp) rfl
            have t2 := E.ein 2 18 _ rfl (by decide) d2
            exact rel_load rfl _ _ rfl b1 (o1 + k * 11) (by simp [go_sem, t2]) x.cells _ (fun j u hj => hu.cell_some (hX j u hj)) Tryz.underlying44 rfl lnSizeS rfl
          case o4 =>
            intro vs W' F Y E hu hd
            have s0 := E.eout 1 (.slice (some ⟨b2, o2, none⟩) N cap2) rfl rfl
            exact rel_val (v := .slice (some ⟨b2, o2, none⟩) N cap2) rfl (by simp [go_sem, s0]) (Up.refl _) rfl
          case o5 =>
            intro vs W' F Y E hu hd
            have s0 := E.eout 5 (.int .i64 (k : Int)) rfl rfl
            exact rel_val (v := .int .i64 (k : Int)) rfl (by simp [go_sem, s0]) (Up.refl _) rfl
          case o6 =>
            intro vs W' F Y E hu hd
            have d4 : vs 4 = .slice (some ⟨b2, o2, none⟩) N cap2 := hd ⟨4, .data⟩ (by simp) rfl
            have t4 := E.ein 4 20 _ rfl (by decide) d4
            have d5 : vs 5 = .int .i64 (k : Int) := hd ⟨5, .data⟩ (by simp) rfl
            have t5 := E.ein 5 21 _ rfl (by decide) d5
            exact rel_val (v := .pointer (some ⟨b2, o2 + k * 11, none⟩)) rfl (by simp [go_sem, t4, t5, k0, hlt']) (Up.refl _) rfl
          case o7 =>
            intro vs W' F Y E hu hd
            have d6 : vs 6 = .pointer (some ⟨b2, o2 + k * 11, none⟩) := hd ⟨6, .data⟩ (by simp) rfl
            have t6 := E.ein 6 22 _ rfl (by decide) d6
            exact rel_load rfl _ _ rfl b2 (o2 + k * 11) (by simp [go_sem, t6]) y.cells _ (fun j u hj => hu.cell_some (hY j u hj)) Tryz.underlying44 rfl lnSizeS rfl
          case o8 =>
            intro vs W' F Y E hu hd
            have d3 : vs 3 = .agg x.cells.toArray := hd ⟨3, .data⟩ (by simp) rfl
            have t3 := E.ein 3 19 _ rfl (by decide) d3
            have d7 : vs 7 = .agg y.cells.toArray := hd ⟨7, .data⟩ (by simp) rfl
            have t7 := E.ein 7 23 _ rfl (by decide) d7
            exact rel_val (v := .bool true) rfl (by simp [go_sem, t3, t7, hEq]) (Up.refl _) rfl
          case hend =>
            intro vs W' hu hall
            have d8 : vs 8 = .bool true := hall 8 (by simp)
            obtain ⟨x9, rfl⟩ := hu.mk
            simp only [fillL, Act.put, List.setIfInBounds_toArray, List.set_cons_zero, List.set_cons_succ, d8]
            go_wp2_with fail
            go_ret
            exact ⟨ret_bool E.out.symm, mkI⟩
      · have hlt' : (N : Int) ≤ (k : Int) := by omega
        have E := Lib.hid (show (a == b) = true by
          rw [beq_iff_eq]
          apply List.ext_getElem?
          intro j
          by_cases hj : j < N
          · exact Hk.out j (by omega)
          · rw [List.getElem?_eq_none (by rw [HN.out]; omega), List.getElem?_eq_none (by rw [HM.out]; omega)])
        clear hk hlt
        go_wp2_with fail
        go_ret
        exact ⟨ret_bool E.out.symm, mkI⟩
  · have E := Lib.hid (show (a == b) = false by
      rw [beq_eq_false_iff_ne]
      rintro rfl
      exact hNM (HN.out.symm.trans HM.out))
    have hNM' : ((N : Int) == (M : Int)) = false := by rw [beq_eq_false_iff_ne]; omega
    go_enter Tryz.func21, Tryz.ntmps21
    go_wp2_with fail
    go_ret
    exact ⟨ret_bool E.out.symm, mkI⟩
end Go.Proofs.YteciigbonaecoaaGreatDoor
namespace Go.Ab
open Go.RowKit
section
variable {P : Program} {ops : Array Oper} {C : World → Prop} {Q : Act → Prop} {a : Act} {o : Oper} {rest : List Oper}
theorem wpQuiet_load_mid (hw : Region.wanted o (yielded ops a.tmps) = true) (ty : TypeId) (x : Operand) (ho : o.op = .load ty x)
    (b f : Nat) (hx : a.eval x = .pointer (some ⟨b, f, none⟩)) (cs : List Value) (d : TypeDesc) (hc : ∀ w, C w → w.rangeAt b f cs)
    (hu : P.underlying ty = some d) (hd : d.isRow = true) (hi : (P.info? ty).map (·.size) = some cs.length)
    (h : wpQuiet P ops C Q rest (a.put o.dst (.agg cs.toArray))) : wpQuiet P ops C Q (o :: rest) a :=
  BigFrame.wpQuiet_want hw fun _ hK => ⟨_, fun w hC => by
    unfold Oper.quietAt execOp
    simp only [ho, hx, Instr.loadAt, Instr.sureAddr, Sem.run_bind, Sem.run_pure, Result.andThen_ok, run_loadVar_mid w b f ty cs d (hc w hC) hu hd hi]
    exact ⟨rfl, rfl⟩, hK _ h⟩
theorem wpQuiet_build (hw : Region.wanted o (yielded ops a.tmps) = true) (t : TypeId) (parts : Array (Nat × Operand)) (ho : o.op = .build t parts) (ps : Array (Nat × Value)) (hp : (parts.map fun (i, x) => (i, a.eval x)) = ps) (v : Value)
    (hr : ∀ w, (Instr.build t ps).run P w = .ok v w) (h : wpQuiet P ops C Q rest (a.put o.dst v)) : wpQuiet P ops C Q (o :: rest) a :=
  BigFrame.wpQuiet_want hw fun _ hK => ⟨v, fun w _ => by
    subst hp
    unfold Oper.quietAt execOp
    simp only [ho, Sem.run_bind, hr, Result.andThen_ok]
    exact ⟨rfl, rfl⟩, hK _ h⟩
theorem wpQuiet_call (hw : Region.wanted o (yielded ops a.tmps) = true) (h : o.quiet P a C (wpQuiet P ops C Q rest)) : wpQuiet P ops C Q (o :: rest) a := BigFrame.wpQuiet_want hw fun _ hK => Oper.quiet_mono hK h
end
theorem range_ext {w : World} {b f : Nat} {cs : List Value} (h : w.rangeAt b f cs) : ∀ w', (∃ x : Ext w, w' = x.w) → w'.rangeAt b f cs := fun _ ⟨x, hx⟩ j u hj => hx ▸ x.up.cell_some' (h j u hj)
end Go.Ab
namespace Go.Ab
open Go.RowKit Go.Proofs.YteciigbonaecoaaGreatDoor
/-- Some cells hold the lines, one behind the other. -/
def Holds (cur : Array Value) (l : List Ln) : Prop := ∀ (i : Nat) (z : Ln), l[i]? = some z → ∀ (j : Nat) (u : Value), z.cells[j]? = some u → cur[i * 11 + j]? = some u
theorem Holds.of_take {cur : Array Value} {l : List Ln} {n : Nat} (h : cur.toList.take n = l.flatMap Ln.cells) : Holds cur l := fun i z hz j u hu => by
  have h1 := flat_at (cells := Ln.cells) Ln.cells_length l i j z u hz hu
  rw [← h, List.getElem?_take] at h1
  split at h1
  · simpa using h1
  · cases h1
theorem Holds.set {cur : Array Value} {l : List Ln} (h : Holds cur l) (k : Nat) (x : Ln) (hs : k * 11 + 11 ≤ cur.size) : Holds (insA cur (k * 11) x.cells) (l.set k x) := fun i z hz j u hu => by
  have hj : j < 11 := by have := (List.getElem?_eq_some_iff.1 hu).1; rwa [z.cells_length] at this
  have hxl := x.cells_length
  have hfit : k * 11 + x.cells.length ≤ cur.size := by omega
  have get : ∀ t, (insA cur (k * 11) x.cells)[t]? = (insA cur (k * 11) x.cells).toList[t]? := fun t => Array.getElem?_toList.symm
  rw [List.getElem?_set] at hz
  by_cases hki : k = i
  · subst hki
    rw [if_pos rfl] at hz
    split at hz
    · obtain rfl : x = z := Option.some.inj hz
      have ht := insA_take cur (k * 11) x.cells hfit
      have h2 := congrArg (fun (l : List Value) => l[k * 11 + j]?) ht
      rw [List.getElem?_take, if_pos (by omega), List.getElem?_append_right (by rw [List.length_take, Array.length_toList]; omega), List.length_take, Array.length_toList, show k * 11 + j - min (k * 11) cur.size = j by omega] at h2
      rw [get, h2]; exact hu
    · cases hz
  · rw [if_neg hki] at hz
    have hc := h i z hz j u hu
    rcases Nat.lt_or_gt_of_ne hki with h1 | h1
    · rw [insA_hi cur (k * 11) x.cells (i * 11 + j) hfit (by omega)]; exact hc
    · have hl := insA_lo cur (k * 11) x.cells hfit
      have h2 := congrArg (fun (l : List Value) => l[i * 11 + j]?) hl
      rw [List.getElem?_take, if_pos (by omega), List.getElem?_take, if_pos (by omega)] at h2
      rw [get, h2]
      simpa using hc
theorem Holds.row {w : World} {g cap N : Nat} {cur : Array Value} {l : List Ln} {t : TypeId} {fr : Nat × Nat} (h : Holds cur l) (hg : w.heap[g]? = some (.cells cur t fr)) (hn : l.length = N) (hc : N ≤ cap) : LnRow w (.slice (some ⟨g, 0, none⟩) N cap) l :=
  ⟨some ⟨g, 0, none⟩, cap, by rw [hn], by rw [hn]; exact hc, fun i z hz => ⟨g, 0, rfl, (Array.getElem?_eq_some_iff.1 hg).1, fun j u hu => by
    rw [cell_of_row w g _ _ _ _ hg, Nat.zero_add]; exact h i z hz j u hu⟩⟩
theorem Holds.range {w : World} {g : Nat} {cur : Array Value} {l : List Ln} {t : TypeId} {fr : Nat × Nat} (h : Holds cur l) (hg : w.heap[g]? = some (.cells cur t fr)) {i : Nat} {z : Ln} (hz : l[i]? = some z) : w.rangeAt g (i * 11) z.cells := fun j u hu => by
  rw [cell_of_row w g _ _ _ _ hg]; exact h i z hz j u hu
section
variable {P : Program} {ops : Array Oper} {o : Oper} {a : Act} {w : World} {K : Act → World → Prop} {Q : Exit → Act → World → Prop} {E : Prop}
theorem step_load_mid (hw : Region.wanted o (yielded ops a.tmps) = true) (ty : TypeId) (x : Operand) (ho : o.op = .load ty x)
    (b f : Nat) (hx : a.eval x = .pointer (some ⟨b, f, none⟩)) (cs : List Value) (d : TypeDesc) (hc : w.rangeAt b f cs)
    (hu : P.underlying ty = some d) (hd : d.isRow = true) (hi : (P.info? ty).map (·.size) = some cs.length) (h : K (a.put o.dst (.agg cs.toArray)) w) :
    if Region.wanted o (yielded ops a.tmps) = true then o.wp P a w K Q else E := by
  rw [if_pos hw]
  exact wp_load_mid ty x ho b f hx cs d hc hu hd hi h
theorem step_slice (hw : Region.wanted o (yielded ops a.tmps) = true) (t : TypeId) (n : Nat) (parts : Array (Nat × Operand)) (ho : o.op = .buildSlice t n parts) (ps : Array (Nat × Value)) (hp : (parts.map fun (i, x) => (i, a.eval x)) = ps) (v : Value) (w' : World)
    (hr : (Instr.buildSlice t n ps).run P w = .ok v w') (h : K (a.put o.dst v) w') : if Region.wanted o (yielded ops a.tmps) = true then o.wp P a w K Q else E := by
  rw [if_pos hw]
  exact wp_sliceRun t n parts ho ps hp v w' hr h
theorem step_store_ins (hw : Region.wanted o (yielded ops a.tmps) = true) (ty : TypeId) (x y : Operand) (ho : o.op = .store ty x y)
    (g off : Nat) (cells : Array Value) (hx : a.eval x = .pointer (some ⟨g, off, none⟩)) (hy : a.eval y = .agg cells)
    (t : TypeId) (cur : Array Value) (hg : w.heap[g]? = some (.cells cur t (0, 0))) (hi : (P.info? ty).map (·.size) = some cells.size) (hfit : off + cells.size ≤ cur.size) (h1 : ∀ u ∈ cells.toList, u.oneCell' = true)
    (h : K (a.put o.dst undef) (w.setRow g (insA cur off cells.toList))) : if Region.wanted o (yielded ops a.tmps) = true then o.wp P a w K Q else E := by
  rw [if_pos hw]
  have hr := run_storeCells_at (P := P) g off t cells.toList 0 cur w hg (by simpa using hfit) h1
  cases hq : P.info? ty with
  | none => simp [hq] at hi
  | some i =>
    have hs : cells.size = i.size := by simp [hq] at hi; omega
    have hsv : (storeVar ty ⟨g, off, none⟩ (.agg cells)).run P w = .ok () (w.setRow g (insA cur off cells.toList)) := by
      simp only [Nat.add_zero] at hr
      simp [storeVar, sizeOf, typeInfo, hq, Value.cells, hs, hr, insA]
    unfold Oper.wp execOp
    simp only [ho, hx, hy, Instr.storeAt, Instr.sureAddr, Sem.run_bind, Sem.run_pure, Result.andThen_ok, hsv]
    exact h
end
section
variable {P : Program} {Q : Exit → Act → World → Prop}
theorem step_append_ownG {ops : Array Oper} {o : Oper} {a : Act} {w : World} {K : Act → World → Prop} {E : Prop} (hw : Region.wanted o (yielded ops a.tmps) = true) (s x : Operand) (t : TypeId)
    (hop : o.op = Op.call { callee := Callee.builtin Builtin.append, args := #[s, x], argTypes := #[t, t] })
    (base : Nat) (e : TypeId) (i : TypeInfo) (z : Value) (size bytes : Nat) (h1 : P.underlying t = some (.slice e)) (h2 : P.info? e = some i) (h3 : i.zero = some z) (h4 : i.size = size) (h5 : i.bytes = bytes) (h6 : z.cells.size = size) (h7 : 0 < size)
    (v : Value) (k : Nat) (xs : List Value) (hs : a.eval s = v) (hown : w.ownsRow base e size v k xs) (ad : Addr) (m c : Nat) (news : List Value) (hx : a.eval x = .slice (some ad) m c) (hn : news.length = m * size)
    (hc : ∀ j u, news[j]? = some u → w.cell? (ad.add j) = some u) (h1c : ∀ u ∈ news, u.oneCell' = true) (b1 : k + m ≤ maxLen) (b2 : (k + m) * bytes ≤ 140737488355328) (b3 : base ≤ w.heap.size)
    (hK : ∀ v' w', w'.ownsRow base e size v' (k + m) (xs ++ news) → w.grownBy w' v.ownBlock → K (a.put o.dst v') w') :
    if Region.wanted o (yielded ops a.tmps) = true then o.wp P a w K Q else E := by
  rw [if_pos hw]
  obtain ⟨v', w', hrun, r1, r2, _⟩ := run_append_own (P := P) w base t o.type e i z size bytes h1 h2 h3 h4 h5 h6 h7 v k xs hown ad m c news hn hc h1c b1 b2 b3
  unfold Oper.wp
  simp [execOp, hop, resolve, invoke, builtin, hs, hx, hrun, Result.andThen]
  exact hK _ _ r1 r2
end
end Go.Ab
namespace Go.Ab
open Go.RowKit Go.Proofs.YteciigbonaecoaaGreatDoor
structure Held (p : Prop) : Prop where
  out : p
theorem held {p : Prop} (h : Held p) : p := h.out
section
variable {P : Program} {ops : Array Oper} {rest : List Oper} {o : Oper} {a : Act} {w : World} {Q : Exit → Act → World → Prop} {K : Act → World → Prop} {E : Prop} {C : World → Prop} {R : Act → Prop}
theorem H_load_mid (hgd : o.guard = none) (ty : TypeId) (x : Operand) (ho : o.op = .load ty x) (b f : Nat) (hx : a.eval x = .pointer (some ⟨b, f, none⟩)) (cs : List Value) (d : TypeDesc) (hc : w.rangeAt b f cs)
    (hu : P.underlying ty = some d) (hd : d.isRow = true) (hi : (P.info? ty).map (·.size) = some cs.length) (h : wpList P ops Q rest (a.put o.dst (.agg cs.toArray)) w) : Held (wpList P ops Q (o :: rest) a w) :=
  ⟨wpList_load_mid hgd ty x ho b f hx cs d hc hu hd hi h⟩
theorem H_load_midG (ty : TypeId) (x : Operand) (ho : o.op = .load ty x) (b f : Nat) (hx : a.eval x = .pointer (some ⟨b, f, none⟩)) (hw : Region.wanted o (yielded ops a.tmps) = true) (cs : List Value) (d : TypeDesc) (hc : w.rangeAt b f cs)
    (hu : P.underlying ty = some d) (hd : d.isRow = true) (hi : (P.info? ty).map (·.size) = some cs.length) (h : wpList P ops Q rest (a.put o.dst (.agg cs.toArray)) w) : Held (wpList P ops Q (o :: rest) a w) :=
  ⟨wpList_load_midG ty x ho b f hx hw cs d hc hu hd hi h⟩
theorem H_load_row (hgd : o.guard = none) (ty : TypeId) (x : Operand) (ho : o.op = .load ty x) (g : Nat) (hx : a.eval x = .pointer (some ⟨g, 0, none⟩)) (t : TypeId) (cs : Array Value) (fr : Nat × Nat) (d : TypeDesc) (hg : w.heap[g]? = some (.cells cs t fr))
    (hu : P.underlying ty = some d) (hd : (match d with | .struct _ | .array _ _ => true | _ => false) = true) (hi : (P.info? ty).map (·.size) = some cs.size) (h : wpList P ops Q rest (a.put o.dst (.agg cs)) w) : Held (wpList P ops Q (o :: rest) a w) :=
  ⟨wpList_load_row hgd ty x ho g hx t cs fr d hg hu hd hi h⟩
theorem H_load_rowG (ty : TypeId) (x : Operand) (ho : o.op = .load ty x) (g : Nat) (hx : a.eval x = .pointer (some ⟨g, 0, none⟩)) (hw : Region.wanted o (yielded ops a.tmps) = true) (t : TypeId) (cs : Array Value) (fr : Nat × Nat) (d : TypeDesc) (hg : w.heap[g]? = some (.cells cs t fr))
    (hu : P.underlying ty = some d) (hd : (match d with | .struct _ | .array _ _ => true | _ => false) = true) (hi : (P.info? ty).map (·.size) = some cs.size) (h : wpList P ops Q rest (a.put o.dst (.agg cs)) w) : Held (wpList P ops Q (o :: rest) a w) :=
  ⟨wpList_step fun K hK => by rw [if_pos hw]; exact wp_load_row ty x ho g hx t cs fr d hg hu hd hi (hK _ _ h)⟩
theorem H_store_row (hgd : o.guard = none) (ty : TypeId) (x y : Operand) (ho : o.op = .store ty x y) (g : Nat) (cells : Array Value) (hx : a.eval x = .pointer (some ⟨g, 0, none⟩)) (hy : a.eval y = .agg cells)
    (t : TypeId) (old : Array Value) (hg : w.heap[g]? = some (.cells old t (0, 0))) (hi : (P.info? ty).map (·.size) = some cells.size) (hold : old.size = cells.size) (h1 : cells.all (·.oneCell') = true)
    (h : wpList P ops Q rest (a.put o.dst undef) (w.setRow g cells)) : Held (wpList P ops Q (o :: rest) a w) :=
  ⟨wpList_store_row hgd ty x y ho g cells hx hy t old hg hi hold h1 h⟩
theorem H_buildRun (hgd : o.guard = none) (t : TypeId) (parts : Array (Nat × Operand)) (ho : o.op = .build t parts) (ps : Array (Nat × Value)) (hp : (parts.map fun (i, x) => (i, a.eval x)) = ps) (v : Value) (w' : World)
    (hr : (Instr.build t ps).run P w = .ok v w') (h : wpList P ops Q rest (a.put o.dst v) w') : Held (wpList P ops Q (o :: rest) a w) := ⟨wpList_buildRun hgd t parts ho ps hp v w' hr h⟩
theorem H_buildRunG (t : TypeId) (parts : Array (Nat × Operand)) (ho : o.op = .build t parts) (hw : Region.wanted o (yielded ops a.tmps) = true) (ps : Array (Nat × Value)) (hp : (parts.map fun (i, x) => (i, a.eval x)) = ps) (v : Value) (w' : World)
    (hr : (Instr.build t ps).run P w = .ok v w') (h : wpList P ops Q rest (a.put o.dst v) w') : Held (wpList P ops Q (o :: rest) a w) := ⟨wpList_step fun K hK => by rw [if_pos hw]; exact wp_buildRun t parts ho ps hp v w' hr (hK _ _ h)⟩
theorem H_sliceRun (hgd : o.guard = none) (t : TypeId) (n : Nat) (parts : Array (Nat × Operand)) (ho : o.op = .buildSlice t n parts) (ps : Array (Nat × Value)) (hp : (parts.map fun (i, x) => (i, a.eval x)) = ps) (v : Value) (w' : World)
    (hr : (Instr.buildSlice t n ps).run P w = .ok v w') (h : wpList P ops Q rest (a.put o.dst v) w') : Held (wpList P ops Q (o :: rest) a w) := ⟨wpList_sliceRun hgd t n parts ho ps hp v w' hr h⟩
theorem H_sliceRunG (t : TypeId) (n : Nat) (parts : Array (Nat × Operand)) (ho : o.op = .buildSlice t n parts) (hw : Region.wanted o (yielded ops a.tmps) = true) (ps : Array (Nat × Value)) (hp : (parts.map fun (i, x) => (i, a.eval x)) = ps) (v : Value) (w' : World)
    (hr : (Instr.buildSlice t n ps).run P w = .ok v w') (h : wpList P ops Q rest (a.put o.dst v) w') : Held (wpList P ops Q (o :: rest) a w) := ⟨wpList_sliceRunG t n parts ho hw ps hp v w' hr h⟩
theorem H_append_own (hgd : o.guard = none) (s x : Operand) (t : TypeId) (ho : o.op = .call { callee := .builtin .append, args := #[s, x], argTypes := #[t, t] })
    (base : Nat) (e : TypeId) (i : TypeInfo) (z : Value) (size bytes : Nat) (ht : P.underlying t = some (.slice e)) (hi : P.info? e = some i) (hz : i.zero = some z) (hsize : i.size = size) (hby : i.bytes = bytes) (hzs : z.cells.size = size) (hsz : 0 < size)
    (v : Value) (n : Nat) (xs : List Value) (hs : a.eval s = v) (hown : w.ownsRow base e size v n xs)
    (ad : Addr) (m c : Nat) (news : List Value) (hx : a.eval x = .slice (some ad) m c) (hl : news.length = m * size) (hnews : ∀ j u, news[j]? = some u → w.cell? (ad.add j) = some u) (h1 : ∀ u ∈ news, u.oneCell' = true)
    (h63 : n + m ≤ maxLen) (hbytes : (n + m) * bytes ≤ 140737488355328) (hbase : base ≤ w.heap.size)
    (h : ∀ v' w', w'.ownsRow base e size v' (n + m) (xs ++ news) → w.grownBy w' v.ownBlock → (v' = .slice none 0 0 ↔ v = .slice none 0 0 ∧ m = 0) → wpList P ops Q rest (a.put o.dst v') w') : Held (wpList P ops Q (o :: rest) a w) :=
  ⟨wpList_append_own w hgd s x t ho base e i z size bytes ht hi hz hsize hby hzs hsz v n xs hs hown ad m c news hx hl hnews h1 h63 hbytes hbase h⟩
theorem HQ_load_mid (hw : Region.wanted o (yielded ops a.tmps) = true) (ty : TypeId) (x : Operand) (ho : o.op = .load ty x) (b f : Nat) (hx : a.eval x = .pointer (some ⟨b, f, none⟩)) (cs : List Value) (d : TypeDesc) (hc : ∀ w, C w → w.rangeAt b f cs)
    (hu : P.underlying ty = some d) (hd : d.isRow = true) (hi : (P.info? ty).map (·.size) = some cs.length) (h : wpQuiet P ops C R rest (a.put o.dst (.agg cs.toArray))) : Held (wpQuiet P ops C R (o :: rest) a) :=
  ⟨wpQuiet_load_mid hw ty x ho b f hx cs d hc hu hd hi h⟩
theorem HQ_build (hw : Region.wanted o (yielded ops a.tmps) = true) (t : TypeId) (parts : Array (Nat × Operand)) (ho : o.op = .build t parts) (ps : Array (Nat × Value)) (hp : (parts.map fun (i, x) => (i, a.eval x)) = ps) (v : Value)
    (hr : ∀ w, (Instr.build t ps).run P w = .ok v w) (h : wpQuiet P ops C R rest (a.put o.dst v)) : Held (wpQuiet P ops C R (o :: rest) a) := ⟨wpQuiet_build hw t parts ho ps hp v hr h⟩
theorem HS_load_mid (hw : Region.wanted o (yielded ops a.tmps) = true) (ty : TypeId) (x : Operand) (ho : o.op = .load ty x) (b f : Nat) (hx : a.eval x = .pointer (some ⟨b, f, none⟩)) (cs : List Value) (d : TypeDesc) (hc : w.rangeAt b f cs)
    (hu : P.underlying ty = some d) (hd : d.isRow = true) (hi : (P.info? ty).map (·.size) = some cs.length) (h : K (a.put o.dst (.agg cs.toArray)) w) : Held (if Region.wanted o (yielded ops a.tmps) = true then o.wp P a w K Q else E) :=
  ⟨step_load_mid hw ty x ho b f hx cs d hc hu hd hi h⟩
theorem HS_slice (hw : Region.wanted o (yielded ops a.tmps) = true) (t : TypeId) (n : Nat) (parts : Array (Nat × Operand)) (ho : o.op = .buildSlice t n parts) (ps : Array (Nat × Value)) (hp : (parts.map fun (i, x) => (i, a.eval x)) = ps) (v : Value) (w' : World)
    (hr : (Instr.buildSlice t n ps).run P w = .ok v w') (h : K (a.put o.dst v) w') : Held (if Region.wanted o (yielded ops a.tmps) = true then o.wp P a w K Q else E) := ⟨step_slice hw t n parts ho ps hp v w' hr h⟩
theorem HS_build (hw : Region.wanted o (yielded ops a.tmps) = true) (t : TypeId) (parts : Array (Nat × Operand)) (ho : o.op = .build t parts) (ps : Array (Nat × Value)) (hp : (parts.map fun (i, x) => (i, a.eval x)) = ps) (v : Value) (w' : World)
    (hr : (Instr.build t ps).run P w = .ok v w') (h : K (a.put o.dst v) w') : Held (if Region.wanted o (yielded ops a.tmps) = true then o.wp P a w K Q else E) := ⟨by rw [if_pos hw]; exact wp_buildRun t parts ho ps hp v w' hr h⟩
theorem HS_store_ins (hw : Region.wanted o (yielded ops a.tmps) = true) (ty : TypeId) (x y : Operand) (ho : o.op = .store ty x y) (g off : Nat) (cells : Array Value) (hx : a.eval x = .pointer (some ⟨g, off, none⟩)) (hy : a.eval y = .agg cells)
    (t : TypeId) (cur : Array Value) (hg : w.heap[g]? = some (.cells cur t (0, 0))) (hi : (P.info? ty).map (·.size) = some cells.size) (hfit : off + cells.size ≤ cur.size) (h1 : ∀ u ∈ cells.toList, u.oneCell' = true)
    (h : K (a.put o.dst undef) (w.setRow g (insA cur off cells.toList))) : Held (if Region.wanted o (yielded ops a.tmps) = true then o.wp P a w K Q else E) := ⟨step_store_ins hw ty x y ho g off cells hx hy t cur hg hi hfit h1 h⟩
theorem HS_append_own (hw : Region.wanted o (yielded ops a.tmps) = true) (s x : Operand) (t : TypeId) (hop : o.op = Op.call { callee := Callee.builtin Builtin.append, args := #[s, x], argTypes := #[t, t] })
    (base : Nat) (e : TypeId) (i : TypeInfo) (z : Value) (size bytes : Nat) (h1 : P.underlying t = some (.slice e)) (h2 : P.info? e = some i) (h3 : i.zero = some z) (h4 : i.size = size) (h5 : i.bytes = bytes) (h6 : z.cells.size = size) (h7 : 0 < size)
    (v : Value) (k : Nat) (xs : List Value) (hs : a.eval s = v) (hown : w.ownsRow base e size v k xs) (ad : Addr) (m c : Nat) (news : List Value) (hx : a.eval x = .slice (some ad) m c) (hn : news.length = m * size)
    (hc : ∀ j u, news[j]? = some u → w.cell? (ad.add j) = some u) (h1c : ∀ u ∈ news, u.oneCell' = true) (b1 : k + m ≤ maxLen) (b2 : (k + m) * bytes ≤ 140737488355328) (b3 : base ≤ w.heap.size)
    (hK : ∀ v' w', w'.ownsRow base e size v' (k + m) (xs ++ news) → w.grownBy w' v.ownBlock → K (a.put o.dst v') w') : Held (if Region.wanted o (yielded ops a.tmps) = true then o.wp P a w K Q else E) :=
  ⟨step_append_ownG hw s x t hop base e i z size bytes h1 h2 h3 h4 h5 h6 h7 v k xs hs hown ad m c news hx hn hc h1c b1 b2 b3 hK⟩
theorem HS_append_none (hw : Region.wanted o (yielded ops a.tmps) = true) (s x : Operand) (t : TypeId)
    (hop : o.op = Op.call { callee := Callee.builtin Builtin.append, args := #[s, x], argTypes := #[t, t] }) (base : Nat) (e : TypeId) (i : TypeInfo) (size : Nat) (ht : P.underlying t = some (.slice e)) (hi : P.info? e = some i)
    (v : Value) (n : Nat) (xs : List Value) (hs : a.eval s = v) (hown : w.ownsRow base e size v n xs) (hx : a.eval x = .slice none 0 0) (hK : K (a.put o.dst v) w) :
    Held (if Region.wanted o (yielded ops a.tmps) = true then o.wp P a w K Q else E) := ⟨by
  rw [if_pos hw]
  have hrun := run_append_owned_none (P := P) (w := w) base t o.type e i size ht hi v n xs hown
  unfold Oper.wp
  simp [execOp, hop, resolve, invoke, builtin, hs, hx, hrun, Result.andThen]
  exact hK⟩
theorem HS_call (hw : Region.wanted o (yielded ops a.tmps) = true) (f : FuncId) (xs : Array Operand) (ts : Array TypeId) (hop : o.op = Op.call { callee := Callee.value (Operand.func f), args := xs, argTypes := ts })
    (args : Array Value) (ha : xs.map a.eval = args) (hcf : ∀ w, (callFunc f args).run P w = .ok (.enter f args) w) (v : Value) (h : Gives P f args w v) (hK : ∀ x : Ext w, K (a.put o.dst v) x.w) :
    Held (if Region.wanted o (yielded ops a.tmps) = true then o.wp P a w K Q else E) := ⟨by
  rw [if_pos hw]
  unfold Oper.wp
  unfold execOp
  rw [hop]
  go_simp
  refine Gives.mono h ?_
  rintro e w1 ⟨rfl, x, rfl⟩
  exact hK x⟩
end
theorem HR_cons {P : Program} {md : Region.Mode} {ops : Array Oper} {Q : Exit → Act → World → Prop} {fuel : Nat} {listed : Array Bool} {a : Act} {w : World} {i : Nat} {o : Oper} {rs : List Nat} (ho : ops[i]? = some o)
    (h : ∀ K' : Act → World → Prop, (∀ a w, wpAny P md ops Q fuel (listed.setIfInBounds i true) a w → K' a w) → if Region.wanted o (yielded ops a.tmps) = true then Oper.wp P o a w K' Q else K' (a.put o.dst undef) w)
    (hs : AllReady P md ops Q fuel listed a w rs) : Held (AllReady P md ops Q fuel listed a w (i :: rs)) := ⟨AllReady.cons ho h hs⟩
/-- A small number, by instance: an equation on wrap64 in the context makes every omega slow. -/
class SmallN (m : Nat) : Prop where
  lt : m < 4611686018427387904
theorem wrapI (m : Nat) [h : SmallN m] : wrap64 (m : Int) = (m : Int) := IntWalk.wrap64_in _ ⟨by have := h.lt; omega, by have := h.lt; omega⟩
theorem wrapI1 (m : Nat) [h : SmallN m] : wrap64 ((m : Int) + 1) = (m : Int) + 1 := IntWalk.wrap64_in _ ⟨by have := h.lt; omega, by have := h.lt; omega⟩
theorem wrapK (m : Nat) [SmallN m] : IntKind.i64.wrap (m : Int) = (m : Int) := (IntWalk.i64_left _).trans (wrapI m)
theorem wrapK1 (m : Nat) [SmallN m] : IntKind.i64.wrap ((m : Int) + 1) = (m : Int) + 1 := (IntWalk.i64_left _).trans (wrapI1 m)
end Go.Ab
