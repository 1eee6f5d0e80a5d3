/- What a row's list of laid variables and its world's shape give. -/
import Derived.Test.YtbojbnpafoaljaaDoorCards
import Derived.Test.YtbojbnpafoaljaaDoorTie
import Derived.Test.YtbojbnpafoaljaaDoorNames
import Derived.Test.YtbojbnpafoaljaaDoorWrap
import Derived.Test.YtbojbnpafoaljaaDoorDA
import Derived.Deep.DeepHandedRow
import Derived.Deep.DeepWitnessRowRef
import Derived.Lib.LaidTab
import Derived.Stop.LaidErr
import Derived.Shelf.Vars
namespace Go.Proofs.YtbojbnpafoaljaaDoor
open Go.ChangeShapes Go.WideShapes Go.ChangeAt Go.RowKit Go.Ab
theorem own : ownKnob Tryd.prog.godebug = none := by kernel_rfl
theorem laidOut : laidOutB Tryd.prog = true := by kernel_rfl
def sidesL : List (List UInt8) := [insideW, outsideW]
/-- The rows' list. -/
def laidList : List (String × DataW Unit) := [("math/bits.deBruijn32tab", Rows.laid_math_bits_deBruijn32tab), ("math/bits.deBruijn64tab", Rows.laid_math_bits_deBruijn64tab), ("internal/strconv.uint64pow10", Rows.laid_internal_strconv_uint64pow10), ("unicode/utf8.acceptRanges", Rows.laid_unicode_utf8_acceptRanges), ("baffle/pkt.names", Rows.laid_baffle_pkt_names), ("baffle/assured.names", Rows.laid_baffle_assured_names), ("strconv.ErrRange", Rows.laid_strconv_ErrRange), ("strconv.ErrSyntax", Rows.laid_strconv_ErrSyntax), ("baffle/dump.sides", Rows.laid_baffle_dump_sides), ("unicode/utf8.first", Rows.laid_unicode_utf8_first)]
theorem star : "*" ++ "errors.errorString" = "*errors.errorString" := by decide
theorem rowErr (u : TypeId) (h : Tryd.prog.typeName? 3 u = some "*errors.errorString") : u = 145 :=
  typeName_ptr_named (nm := "errors.errorString") (by rw [star]; kernel_rfl) (by kernel_rfl) (by decide) u (by rw [star]; exact h)
theorem good_of {W : World} (h : laidMetH Tryd.prog laidList W) (hs : W.ShapedOpen Tryd.prog) : Good W := by
  have hL : laidMet Tryd.prog laidList W := h
  unfold laidList at hL
  refine ⟨?_, ?_, ?_, ?_⟩
  · exact cell_of_shapedOpen_int (P := Tryd.prog) (g := 3) (t := 3) (zero := #[.int .i64 0]) hs (of_decide_eq_true (by kernel_rfl)) (by kernel_rfl) rfl (by kernel_rfl) (by kernel_rfl) Tryd.underlying3
  · obtain ⟨a, s, hv, _, _, _⟩ := laid_sentinel hL.tail.tail.tail.tail.tail.tail.tail (g := 4) (ti := 59) (tp := 145) (te := 147) (ts := 9) (by kernel_rfl) (by kernel_rfl) Tryd.underlying59 rowErr Tryd.underlying145 Tryd.underlying147 rfl rfl Tryd.underlying9 (by kernel_rfl) (by kernel_rfl)
    exact ⟨_, by simpa using World.var?_cell (show Tryd.prog.globalNamed "strconv.ErrSyntax" = some 4 by kernel_rfl) hv 0, .inr ⟨_, _, rfl⟩⟩
  · obtain ⟨a, s, hv, _, _, _⟩ := laid_sentinel hL.tail.tail.tail.tail.tail.tail (g := 5) (ti := 59) (tp := 145) (te := 147) (ts := 9) (by kernel_rfl) (by kernel_rfl) Tryd.underlying59 rowErr Tryd.underlying145 Tryd.underlying147 rfl rfl Tryd.underlying9 (by kernel_rfl) (by kernel_rfl)
    exact ⟨_, by simpa using World.var?_cell (show Tryd.prog.globalNamed "strconv.ErrRange" = some 5 by kernel_rfl) hv 0, .inr ⟨_, _, rfl⟩⟩
  · exact Lib.tabIs_of_head (g := 6) (by kernel_rfl) (t := 138) (by kernel_rfl) Tryd.underlying138 Tryd.underlying118 (by kernel_rfl) (by kernel_rfl) hL.tail.tail
theorem namesL_of {W : World} (h : laidMetH Tryd.prog laidList W) : ∀ (i : Nat) s, namesL[i]? = some s → W.cell? ⟨1, i, none⟩ = some (.string ⟨s.toArray⟩) := by
  have hL : laidMet Tryd.prog laidList W := h
  unfold laidList at hL
  have hk : laidMet Tryd.prog (("baffle/pkt.names", strData namesL) :: _) W := hL.tail.tail.tail.tail
  exact (strs_of_head (g := 1) (t := 76) (e := 9) (by kernel_rfl) (by kernel_rfl) Tryd.underlying76 Tryd.underlying9 (by kernel_rfl) (by kernel_rfl) hk).cell (by kernel_rfl)
theorem clsL_of {W : World} (h : laidMetH Tryd.prog laidList W) : ∀ (i : Nat) s, clsL[i]? = some s → W.cell? ⟨2, i, none⟩ = some (.string ⟨s.toArray⟩) := by
  have hL : laidMet Tryd.prog laidList W := h
  unfold laidList at hL
  have hk : laidMet Tryd.prog (("baffle/assured.names", strData clsL) :: _) W := hL.tail.tail.tail.tail.tail
  exact (strs_of_head (g := 2) (t := 94) (e := 9) (by kernel_rfl) (by kernel_rfl) Tryd.underlying94 Tryd.underlying9 (by kernel_rfl) (by kernel_rfl) hk).cell (by kernel_rfl)
theorem sidesL_of {W : World} (h : laidMetH Tryd.prog laidList W) : ∀ (i : Nat) s, sidesL[i]? = some s → W.cell? ⟨0, i, none⟩ = some (.string ⟨s.toArray⟩) := by
  have hL : laidMet Tryd.prog laidList W := h
  unfold laidList at hL
  have hk : laidMet Tryd.prog (("baffle/dump.sides", strData sidesL) :: _) W := hL.tail.tail.tail.tail.tail.tail.tail.tail
  exact (strs_of_head (g := 0) (t := 70) (e := 9) (by kernel_rfl) (by kernel_rfl) Tryd.underlying70 Tryd.underlying9 (by kernel_rfl) (by kernel_rfl) hk).cell (by kernel_rfl)
theorem goodN_of {W : World} (h : laidMetH Tryd.prog laidList W) (hs : W.ShapedOpen Tryd.prog) : GoodN W := ⟨good_of h hs, namesL_of h⟩
theorem goodD_of {W : World} (h : laidMetH Tryd.prog laidList W) (hs : W.ShapedOpen Tryd.prog) : GoodD W := ⟨goodN_of h hs, clsL_of h, sidesL_of h 0 _ rfl, sidesL_of h 1 _ rfl⟩
end Go.Proofs.YtbojbnpafoaljaaDoor
