/- What a row's list of laid variables and its world's shape give. A world for the witness: the settled one, the listed variables holding what their initialisers lay. -/
import Derived.Test.YteciigbonaecoaaGreatDoorCards
import Derived.Test.YteciigbonaecoaaGreatDoorTie
import Derived.Test.YteciigbonaecoaaGreatDoorNames
import Derived.Test.YteciigbonaecoaaGreatDoorWrap
import Derived.Test.YteciigbonaecoaaGreatDoorDA
import Derived.Deep.DeepHandedRow
import Derived.Deep.DeepWitnessRowRef
import Derived.Lib.LaidTab
import Derived.Stop.LaidErr
import Derived.Shelf.Vars
namespace Go.Proofs.YteciigbonaecoaaGreatDoor
open Go.ChangeShapes Go.WideShapes Go.ChangeAt Go.RowKit Go.Ab
theorem own : ownKnob Tryz.prog.godebug = none := by kernel_rfl
theorem laidOut : laidOutB Tryz.prog = true := by kernel_rfl
def sidesL : List (List UInt8) := [insideW, outsideW]
/-- The rows' list. -/
def laidList : List (String × DataW Unit) := [("math/bits.deBruijn32tab", Rows.laid_math_bits_deBruijn32tab), ("math/bits.deBruijn64tab", Rows.laid_math_bits_deBruijn64tab), ("internal/strconv.uint64pow10", Rows.laid_internal_strconv_uint64pow10), ("unicode/utf8.acceptRanges", Rows.laid_unicode_utf8_acceptRanges), ("baffle/pkt.names", Rows.laid_baffle_pkt_names), ("baffle/assured.names", Rows.laid_baffle_assured_names), ("strconv.ErrRange", Rows.laid_strconv_ErrRange), ("strconv.ErrSyntax", Rows.laid_strconv_ErrSyntax), ("baffle/dump.sides", Rows.laid_baffle_dump_sides), ("unicode/utf8.first", Rows.laid_unicode_utf8_first)]
theorem star : "*" ++ "errors.errorString" = "*errors.errorString" := by decide
theorem rowErr (u : TypeId) (h : Tryz.prog.typeName? 3 u = some "*errors.errorString") : u = 273 :=
  typeName_ptr_named (nm := "errors.errorString") (by rw [star]; kernel_rfl) (by kernel_rfl) (by decide) u (by rw [star]; exact h)
theorem good_of {W : World} (h : laidMetH Tryz.prog laidList W) (hs : W.ShapedOpen Tryz.prog) : Good W := by
  have hL : laidMet Tryz.prog laidList W := h
  unfold laidList at hL
  refine ⟨?_, ?_, ?_, ?_⟩
  · exact cell_of_shapedOpen_int (P := Tryz.prog) (g := 7) (t := 3) (zero := #[.int .i64 0]) hs (of_decide_eq_true (by kernel_rfl)) (by kernel_rfl) rfl (by kernel_rfl) (by kernel_rfl) Tryz.underlying3
  · obtain ⟨a, s, hv, _, _, _⟩ := laid_sentinel hL.tail.tail.tail.tail.tail.tail.tail (g := 4) (ti := 140) (tp := 273) (te := 275) (ts := 9) (by kernel_rfl) (by kernel_rfl) Tryz.underlying140 rowErr Tryz.underlying273 Tryz.underlying275 rfl rfl Tryz.underlying9 (by kernel_rfl) (by kernel_rfl)
    exact ⟨_, by simpa using World.var?_cell (show Tryz.prog.globalNamed "strconv.ErrSyntax" = some 4 by kernel_rfl) hv 0, .inr ⟨_, _, rfl⟩⟩
  · obtain ⟨a, s, hv, _, _, _⟩ := laid_sentinel hL.tail.tail.tail.tail.tail.tail (g := 5) (ti := 140) (tp := 273) (te := 275) (ts := 9) (by kernel_rfl) (by kernel_rfl) Tryz.underlying140 rowErr Tryz.underlying273 Tryz.underlying275 rfl rfl Tryz.underlying9 (by kernel_rfl) (by kernel_rfl)
    exact ⟨_, by simpa using World.var?_cell (show Tryz.prog.globalNamed "strconv.ErrRange" = some 5 by kernel_rfl) hv 0, .inr ⟨_, _, rfl⟩⟩
  · exact Lib.tabIs_of_head (g := 6) (by kernel_rfl) (t := 269) (by kernel_rfl) Tryz.underlying269 Tryz.underlying210 (by kernel_rfl) (by kernel_rfl) hL.tail.tail
theorem namesL_of {W : World} (h : laidMetH Tryz.prog laidList W) : ∀ (i : Nat) s, namesL[i]? = some s → W.cell? ⟨3, i, none⟩ = some (.string ⟨s.toArray⟩) := by
  have hL : laidMet Tryz.prog laidList W := h
  unfold laidList at hL
  have hk : laidMet Tryz.prog (("baffle/pkt.names", strData namesL) :: _) W := hL.tail.tail.tail.tail
  exact (strs_of_head (g := 3) (t := 181) (e := 9) (by kernel_rfl) (by kernel_rfl) Tryz.underlying181 Tryz.underlying9 (by kernel_rfl) (by kernel_rfl) hk).cell (by kernel_rfl)
theorem clsL_of {W : World} (h : laidMetH Tryz.prog laidList W) : ∀ (i : Nat) s, clsL[i]? = some s → W.cell? ⟨2, i, none⟩ = some (.string ⟨s.toArray⟩) := by
  have hL : laidMet Tryz.prog laidList W := h
  unfold laidList at hL
  have hk : laidMet Tryz.prog (("baffle/assured.names", strData clsL) :: _) W := hL.tail.tail.tail.tail.tail
  exact (strs_of_head (g := 2) (t := 171) (e := 9) (by kernel_rfl) (by kernel_rfl) Tryz.underlying171 Tryz.underlying9 (by kernel_rfl) (by kernel_rfl) hk).cell (by kernel_rfl)
theorem sidesL_of {W : World} (h : laidMetH Tryz.prog laidList W) : ∀ (i : Nat) s, sidesL[i]? = some s → W.cell? ⟨0, i, none⟩ = some (.string ⟨s.toArray⟩) := by
  have hL : laidMet Tryz.prog laidList W := h
  unfold laidList at hL
  have hk : laidMet Tryz.prog (("baffle/dump.sides", strData sidesL) :: _) W := hL.tail.tail.tail.tail.tail.tail.tail.tail
  exact (strs_of_head (g := 0) (t := 132) (e := 9) (by kernel_rfl) (by kernel_rfl) Tryz.underlying132 Tryz.underlying9 (by kernel_rfl) (by kernel_rfl) hk).cell (by kernel_rfl)
theorem goodN_of {W : World} (h : laidMetH Tryz.prog laidList W) (hs : W.ShapedOpen Tryz.prog) : GoodN W := ⟨good_of h hs, namesL_of h⟩
theorem goodD_of {W : World} (h : laidMetH Tryz.prog laidList W) (hs : W.ShapedOpen Tryz.prog) : GoodD W := ⟨goodN_of h hs, clsL_of h, sidesL_of h 0 _ rfl, sidesL_of h 1 _ rfl⟩
end Go.Proofs.YteciigbonaecoaaGreatDoor
namespace Go.Proofs.YteciigbonaecoaaGreatDoor
open Go.ChangeShapes Go.WideShapes Go.ChangeAt Go.RowKit Go.Ab
noncomputable def low : Nat := (World.holding Tryz.prog default ⟨#[], #[], []⟩).heap.size
/-- The cells of a laid table, in text order. -/
def flat (d : DataW Unit) : Array Value :=
  let one : DataW Unit → List Value := fun
    | .lit (.int k z) => [.int k z]
    | .lit (.string s) => [.string ⟨s.toArray⟩]
    | _ => []
  match d with
  | .agg l => (l.flatMap fun
    | .agg l2 => l2.flatMap one
    | x => one x).toArray
  | _ => #[]
noncomputable def laidWorld (os : Os) : World :=
  let w0 := World.holding Tryz.prog os ⟨#[.cells #[.string ⟨#[118, 97, 108, 117, 101, 32, 111, 117, 116, 32, 111, 102, 32, 114, 97, 110, 103, 101]⟩] 275, .cells #[.string ⟨#[105, 110, 118, 97, 108, 105, 100, 32, 115, 121, 110, 116, 97, 120]⟩] 275], #[], []⟩
  let put (h : Array Obj) (g : Nat) (cs : Array Value) : Array Obj := h.modify g fun
    | .cells _ t frozen => .cells cs t frozen
    | o => o
  let h1 := put w0.heap 11 (flat Rows.laid_math_bits_deBruijn32tab)
  let h2 := put h1 12 (flat Rows.laid_math_bits_deBruijn64tab)
  let h3 := put h2 6 (flat Rows.laid_internal_strconv_uint64pow10)
  let h4 := put h3 9 (flat Rows.laid_unicode_utf8_acceptRanges)
  let h5 := put h4 3 (flat Rows.laid_baffle_pkt_names)
  let h6 := put h5 2 (flat Rows.laid_baffle_assured_names)
  let h7 := put h6 5 #[.iface 273 (.pointer (some ⟨low, 0, none⟩))]
  let h8 := put h7 4 #[.iface 273 (.pointer (some ⟨low + 1, 0, none⟩))]
  let h9 := put h8 0 (flat Rows.laid_baffle_dump_sides)
  let h10 := put h9 8 (flat Rows.laid_unicode_utf8_first)
  { w0 with heap := h10 }
set_option maxRecDepth 100000 in
theorem laid_met (os : Os) (args : Array Value) : laidMet Tryz.prog laidList ((laidWorld os).forCall (fun _ _ => 0) ⟨#[], args, []⟩).memory :=
  laidMet_of_run' 8 (by kernel_rfl) (by kernel_rfl)
end Go.Proofs.YteciigbonaecoaaGreatDoor
