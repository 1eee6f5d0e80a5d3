/- What a row's list of laid variables and its world's shape give. -/
import Derived.Test.YtdebpdjkkblcfaaGreatDoorCards
import Derived.Test.YtdebpdjkkblcfaaGreatDoorTie
import Derived.Test.YtdebpdjkkblcfaaGreatDoorNames
import Derived.Test.YtdebpdjkkblcfaaGreatDoorWrap
import Derived.Deep.DeepHandedRow
import Derived.Deep.DeepWitnessRowRef
import Derived.Lib.LaidTab
import Derived.Stop.LaidErr
import Derived.Shelf.Vars
namespace Go.Proofs.YtdebpdjkkblcfaaGreatDoor
open Go.ChangeShapes Go.WideShapes Go.ChangeAt Go.RowKit Go.Ab
theorem own : ownKnob Tryz.prog.godebug = none := by kernel_rfl
theorem laidOut : laidOutB Tryz.prog = true := by kernel_rfl
/-- The rows' list. -/
def laidList : List (String × DataW Unit) := [("math/bits.deBruijn32tab", Rows.laid_math_bits_deBruijn32tab), ("math/bits.deBruijn64tab", Rows.laid_math_bits_deBruijn64tab), ("internal/strconv.uint64pow10", Rows.laid_internal_strconv_uint64pow10), ("unicode/utf8.acceptRanges", Rows.laid_unicode_utf8_acceptRanges), ("baffle/pkt.names", Rows.laid_baffle_pkt_names), ("strconv.ErrRange", Rows.laid_strconv_ErrRange), ("strconv.ErrSyntax", Rows.laid_strconv_ErrSyntax), ("baffle/trace.words", Rows.laid_baffle_trace_words), ("unicode/utf8.first", Rows.laid_unicode_utf8_first)]
theorem star : "*" ++ "errors.errorString" = "*errors.errorString" := by decide
theorem rowErr (u : TypeId) (h : Tryz.prog.typeName? 3 u = some "*errors.errorString") : u = 174 :=
  typeName_ptr_named (nm := "errors.errorString") (by rw [star]; kernel_rfl) (by kernel_rfl) (by decide) u (by rw [star]; exact h)
theorem good_of {W : World} (h : laidMetH Tryz.prog laidList W) (hs : W.ShapedOpen Tryz.prog) : Good W := by
  have hL : laidMet Tryz.prog laidList W := h
  unfold laidList at hL
  refine ⟨?_, ?_, ?_, ?_⟩
  · exact cell_of_shapedOpen_int (P := Tryz.prog) (g := 5) (t := 3) (zero := #[.int .i64 0]) hs (of_decide_eq_true (by kernel_rfl)) (by kernel_rfl) rfl (by kernel_rfl) (by kernel_rfl) Tryz.underlying3
  · obtain ⟨a, s, hv, _, _, _⟩ := laid_sentinel hL.tail.tail.tail.tail.tail.tail (g := 2) (ti := 88) (tp := 174) (te := 176) (ts := 9) (by kernel_rfl) (by kernel_rfl) Tryz.underlying88 rowErr Tryz.underlying174 Tryz.underlying176 rfl rfl Tryz.underlying9 (by kernel_rfl) (by kernel_rfl)
    exact ⟨_, by simpa using World.var?_cell (show Tryz.prog.globalNamed "strconv.ErrSyntax" = some 2 by kernel_rfl) hv 0, .inr ⟨_, _, rfl⟩⟩
  · obtain ⟨a, s, hv, _, _, _⟩ := laid_sentinel hL.tail.tail.tail.tail.tail (g := 3) (ti := 88) (tp := 174) (te := 176) (ts := 9) (by kernel_rfl) (by kernel_rfl) Tryz.underlying88 rowErr Tryz.underlying174 Tryz.underlying176 rfl rfl Tryz.underlying9 (by kernel_rfl) (by kernel_rfl)
    exact ⟨_, by simpa using World.var?_cell (show Tryz.prog.globalNamed "strconv.ErrRange" = some 3 by kernel_rfl) hv 0, .inr ⟨_, _, rfl⟩⟩
  · exact Lib.tabIs_of_head (g := 4) (by kernel_rfl) (t := 168) (by kernel_rfl) Tryz.underlying168 Tryz.underlying149 (by kernel_rfl) (by kernel_rfl) hL.tail.tail
theorem namesL_of {W : World} (h : laidMetH Tryz.prog laidList W) : ∀ (i : Nat) s, namesL[i]? = some s → W.cell? ⟨1, i, none⟩ = some (.string ⟨s.toArray⟩) := by
  have hL : laidMet Tryz.prog laidList W := h
  unfold laidList at hL
  have hk : laidMet Tryz.prog (("baffle/pkt.names", strData namesL) :: _) W := hL.tail.tail.tail.tail
  exact (strs_of_head (g := 1) (t := 112) (e := 9) (by kernel_rfl) (by kernel_rfl) Tryz.underlying112 Tryz.underlying9 (by kernel_rfl) (by kernel_rfl) hk).cell (by kernel_rfl)
theorem wordsL_of {W : World} (h : laidMetH Tryz.prog laidList W) : ∀ (i : Nat) s, wordsL[i]? = some s → W.cell? ⟨0, i, none⟩ = some (.string ⟨s.toArray⟩) := by
  have hL : laidMet Tryz.prog laidList W := h
  unfold laidList at hL
  have hk : laidMet Tryz.prog (("baffle/trace.words", strData wordsL) :: _) W := hL.tail.tail.tail.tail.tail.tail.tail
  exact (strs_of_head (g := 0) (t := 84) (e := 9) (by kernel_rfl) (by kernel_rfl) Tryz.underlying84 Tryz.underlying9 (by kernel_rfl) (by kernel_rfl) hk).cell (by kernel_rfl)
theorem goodN_of {W : World} (h : laidMetH Tryz.prog laidList W) (hs : W.ShapedOpen Tryz.prog) : GoodN W := ⟨good_of h hs, namesL_of h⟩
theorem goodT_of {W : World} (h : laidMetH Tryz.prog laidList W) (hs : W.ShapedOpen Tryz.prog) : GoodT W := ⟨goodN_of h hs, wordsL_of h⟩
end Go.Proofs.YtdebpdjkkblcfaaGreatDoor
