/- DumpTexts, walked: Right, Text and Read of package dump against the reference. DumpSmall: what the row's list of laid variables gives; a world for the witness. DumpSmall: what the called laws say, put together. -/
import Derived.Test.YtlbbepgfjigjpaaGreatDoorRfA
import Derived.Test.YtlbbepgfjigjpaaGreatDoorRfB
import Derived.Test.YtlbbepgfjigjpaaGreatDoorDAw
import Derived.Test.YtlbbepgfjigjpaaGreatDoorLF
import Derived.Test.YtlbbepgfjigjpaaGreatDoorSmB
import Derived.Test.YtlbbepgfjigjpaaGreatDoorDLi
import Derived.Test.YtlbbepgfjigjpaaGreatDoorApD
namespace Go.Proofs.YtlbbepgfjigjpaaGreatDoor
open Go.RowKit Go.Ab
set_option maxHeartbeats 16000000 in
set_option maxRecDepth 100000 in
theorem texts_any (l : Ln) (s : List UInt8) (w : World) (g : GoodD w) (b : LnB l) : Gives Tryz.prog 5 #[l.val, .string ⟨s.toArray⟩] w (.bool true) := by
  by_cases h5 : 500 < s.length
  · have h5' : (500 : Int) < (s.length : Int) := by omega
    unfold Gives Ln.val
    go_enter Tryz.func5, Tryz.ntmps5
    go_wp2_with fail
    go_ret
    exact ⟨rfl, mkI⟩
  · have h5' : (s.length : Int) ≤ 500 := by omega
    have hT := fun W g => dtext_any l W g b
    have hr1 := fun W => dright_any l W b
    have hr2 := fun W => rright38_any l W b
    have hr3 := fun W h => rtext38_any l W b h
    have hRd := fun W g => dread_any s W g (by omega)
    have hRr := fun W => (rread38_any s W (by omega)).cast (rreadV_eq s)
    unfold dreadV at hRd hRr
    unfold textE at hT
    have fin : ∀ (x : Ln) (e : Int), (∀ W, GoodD W → Gives Tryz.prog 16 #[.string ⟨s.toArray⟩] W (.tuple #[x.val, .int .i64 e])) → (∀ W, Gives Tryz.prog 17 #[.string ⟨s.toArray⟩] W (.tuple #[x.val, .int .i64 e])) → Gives Tryz.prog 5 #[l.val, .string ⟨s.toArray⟩] w (.bool true) := by
      intro x e hRd hRr
      have HT := Lib.hid hT
      clear b h5 hT
      obtain ⟨x1, x2, x3, x4, x5, x6, x7, x8, x9, x10, x11⟩ := x
      unfold Ln.val at *
      cases hr : l.right
      · have hT := HT.out
        rw [hr] at hT hr1 hr2
        simp only [Bool.false_eq_true, if_false] at hT
        clear HT hr hr3
        unfold Gives
        go_enter Tryz.func5, Tryz.ntmps5
        go_upto_region 7 with (first
          | (go_at_call 15; refine (hT _ (g.up upI)).mono ?_; rintro e w' ⟨rfl, z1, rfl⟩)
          | (go_at_call 16; refine (hRd _ (g.up upI)).mono ?_; rintro e w' ⟨rfl, z2, rfl⟩)
          | (go_at_call 17; refine (hRr _).mono ?_; rintro e w' ⟨rfl, z3, rfl⟩))
        (refine wp_region_ext (by kernel_rfl) (by kernel_rfl) ?_; (repeat (go_big_quiet_step ((first | (go_at_call 18; exact (hr1 _).ext) | (go_at_call 19; exact (hr2 _).ext))))); refine wpQuiet_nil ?_; rintro _ ⟨y7, rfl⟩)
        go_wp2_with (go_at_call 19; refine (hr2 _).mono ?_; rintro e w' ⟨rfl, z4, rfl⟩)
        go_ret
        exact ⟨rfl, mkI⟩
      · have hT := HT.out
        rw [hr] at hT hr1 hr2
        simp only [if_true] at hT
        have hr3' := fun W => hr3 W hr
        clear HT hr hr3
        unfold Gives
        go_enter Tryz.func5, Tryz.ntmps5
        go_upto_region 7 with (first
          | (go_at_call 15; refine (hT _ (g.up upI)).mono ?_; rintro e w' ⟨rfl, z1, rfl⟩)
          | (go_at_call 16; refine (hRd _ (g.up upI)).mono ?_; rintro e w' ⟨rfl, z2, rfl⟩)
          | (go_at_call 17; refine (hRr _).mono ?_; rintro e w' ⟨rfl, z3, rfl⟩))
        (refine wp_region_ext (by kernel_rfl) (by kernel_rfl) ?_; (repeat (go_big_quiet_step ((first | (go_at_call 18; exact (hr1 _).ext) | (go_at_call 19; exact (hr2 _).ext))))); refine wpQuiet_nil ?_; rintro _ ⟨y7, rfl⟩)
        go_wp2_with (first
          | (go_at_call 19; refine (hr2 _).mono ?_; rintro e w' ⟨rfl, z4, rfl⟩)
          | (go_at_call 20; refine (hr3' _).mono ?_; rintro e w' ⟨rfl, z5, rfl⟩))
        go_ret
        exact ⟨rfl, mkI⟩
    cases hx : readLn s with
    | some x => rw [hx] at hRd hRr; exact fin x 0 hRd hRr
    | none => rw [hx] at hRd hRr; exact fin Ln.zero 382 hRd hRr
end Go.Proofs.YtlbbepgfjigjpaaGreatDoor
namespace Go.Proofs.YtlbbepgfjigjpaaGreatDoor.LF
open Go.ChangeShapes Go.WideShapes Go.ChangeAt Go.RowKit Go.Ab
def sidesL : List (List UInt8) := [insideW, outsideW]
/-- The rows' list. -/
def laidList : List (String × DataW Unit) := [("math/bits.deBruijn32tab", Rows.laid_math_bits_deBruijn32tab), ("math/bits.deBruijn64tab", Rows.laid_math_bits_deBruijn64tab), ("internal/strconv.uint64pow10", Rows.laid_internal_strconv_uint64pow10), ("unicode/utf8.acceptRanges", Rows.laid_unicode_utf8_acceptRanges), ("baffle/stream.answers", Rows.laid_baffle_stream_answers), ("baffle/pkt.names", Rows.laid_baffle_pkt_names), ("baffle/assured.byState", Rows.laid_baffle_assured_byState), ("baffle/assured.names", Rows.laid_baffle_assured_names), ("strconv.ErrRange", Rows.laid_strconv_ErrRange), ("strconv.ErrSyntax", Rows.laid_strconv_ErrSyntax), ("baffle/dump.sides", Rows.laid_baffle_dump_sides), ("unicode/utf8.first", Rows.laid_unicode_utf8_first)]
theorem star : "*" ++ "errors.errorString" = "*errors.errorString" := by decide
theorem rowErr (u : TypeId) (h : Tryz.prog.typeName? 3 u = some "*errors.errorString") : u = 240 :=
  typeName_ptr_named (nm := "errors.errorString") (by rw [star]; kernel_rfl) (by kernel_rfl) (by decide) u (by rw [star]; exact h)
theorem good_of {W : World} (h : laidMetH Tryz.prog laidList W) (hs : W.ShapedOpen Tryz.prog) : Good W := by
  have hL : laidMet Tryz.prog laidList W := h
  unfold laidList at hL
  refine ⟨?_, ?_, ?_, ?_⟩
  · exact cell_of_shapedOpen_int (P := Tryz.prog) (g := 7) (t := 3) (zero := #[.int .i64 0]) hs (of_decide_eq_true (by kernel_rfl)) (by kernel_rfl) rfl (by kernel_rfl) (by kernel_rfl) Tryz.underlying3
  · obtain ⟨a, s, hv, _, _, _⟩ := laid_sentinel hL.tail.tail.tail.tail.tail.tail.tail.tail.tail (g := 4) (ti := 113) (tp := 240) (te := 242) (ts := 9) (by kernel_rfl) (by kernel_rfl) Tryz.underlying113 rowErr Tryz.underlying240 Tryz.underlying242 rfl rfl Tryz.underlying9 (by kernel_rfl) (by kernel_rfl)
    exact ⟨_, by simpa using World.var?_cell (show Tryz.prog.globalNamed "strconv.ErrSyntax" = some 4 by kernel_rfl) hv 0, .inr ⟨_, _, rfl⟩⟩
  · obtain ⟨a, s, hv, _, _, _⟩ := laid_sentinel hL.tail.tail.tail.tail.tail.tail.tail.tail (g := 5) (ti := 113) (tp := 240) (te := 242) (ts := 9) (by kernel_rfl) (by kernel_rfl) Tryz.underlying113 rowErr Tryz.underlying240 Tryz.underlying242 rfl rfl Tryz.underlying9 (by kernel_rfl) (by kernel_rfl)
    exact ⟨_, by simpa using World.var?_cell (show Tryz.prog.globalNamed "strconv.ErrRange" = some 5 by kernel_rfl) hv 0, .inr ⟨_, _, rfl⟩⟩
  · exact Lib.tabIs_of_head (g := 6) (by kernel_rfl) (t := 230) (by kernel_rfl) Tryz.underlying230 Tryz.underlying199 (by kernel_rfl) (by kernel_rfl) hL.tail.tail
theorem namesL_of {W : World} (h : laidMetH Tryz.prog laidList W) : ∀ (i : Nat) s, namesL[i]? = some s → W.cell? ⟨1, i, none⟩ = some (.string ⟨s.toArray⟩) := by
  have hL : laidMet Tryz.prog laidList W := h
  unfold laidList at hL
  have hk : laidMet Tryz.prog (("baffle/pkt.names", strData namesL) :: _) W := hL.tail.tail.tail.tail.tail
  exact (strs_of_head (g := 1) (t := 134) (e := 9) (by kernel_rfl) (by kernel_rfl) Tryz.underlying134 Tryz.underlying9 (by kernel_rfl) (by kernel_rfl) hk).cell (by kernel_rfl)
theorem clsL_of {W : World} (h : laidMetH Tryz.prog laidList W) : ∀ (i : Nat) s, clsL[i]? = some s → W.cell? ⟨3, i, none⟩ = some (.string ⟨s.toArray⟩) := by
  have hL : laidMet Tryz.prog laidList W := h
  unfold laidList at hL
  have hk : laidMet Tryz.prog (("baffle/assured.names", strData clsL) :: _) W := hL.tail.tail.tail.tail.tail.tail.tail
  exact (strs_of_head (g := 3) (t := 148) (e := 9) (by kernel_rfl) (by kernel_rfl) Tryz.underlying148 Tryz.underlying9 (by kernel_rfl) (by kernel_rfl) hk).cell (by kernel_rfl)
theorem sidesL_of {W : World} (h : laidMetH Tryz.prog laidList W) : ∀ (i : Nat) s, sidesL[i]? = some s → W.cell? ⟨0, i, none⟩ = some (.string ⟨s.toArray⟩) := by
  have hL : laidMet Tryz.prog laidList W := h
  unfold laidList at hL
  have hk : laidMet Tryz.prog (("baffle/dump.sides", strData sidesL) :: _) W := hL.tail.tail.tail.tail.tail.tail.tail.tail.tail.tail
  exact (strs_of_head (g := 0) (t := 106) (e := 9) (by kernel_rfl) (by kernel_rfl) Tryz.underlying106 Tryz.underlying9 (by kernel_rfl) (by kernel_rfl) hk).cell (by kernel_rfl)
theorem goodN_of {W : World} (h : laidMetH Tryz.prog laidList W) (hs : W.ShapedOpen Tryz.prog) : GoodN W := ⟨good_of h hs, namesL_of h⟩
theorem goodD_of {W : World} (h : laidMetH Tryz.prog laidList W) (hs : W.ShapedOpen Tryz.prog) : GoodD W := ⟨goodN_of h hs, clsL_of h, sidesL_of h 0 _ rfl, sidesL_of h 1 _ rfl⟩
end Go.Proofs.YtlbbepgfjigjpaaGreatDoor.LF
namespace Go.Proofs.YtlbbepgfjigjpaaGreatDoor.LF
open Go.ChangeShapes Go.WideShapes Go.ChangeAt Go.RowKit Go.Ab
noncomputable def low : Nat := (World.holding Tryz.prog default ⟨#[], #[], []⟩).heap.size
/-- The cells of a laid table, in text order. -/
def flat (d : DataW Unit) : Array Value :=
  let one : DataW Unit → List Value := fun
    | .lit (.int k z) => [.int k z]
    | .lit (.string s) => [.string ⟨s.toArray⟩]
    | _ => []
  match d with
  | .agg l => (l.flatMap fun
    | .agg l2 => l2.flatMap one
    | x => one x).toArray
  | _ => #[]
noncomputable def laidWorld (os : Os) : World :=
  let w0 := World.holding Tryz.prog os ⟨#[.cells #[.string ⟨#[118, 97, 108, 117, 101, 32, 111, 117, 116, 32, 111, 102, 32, 114, 97, 110, 103, 101]⟩] 242, .cells #[.string ⟨#[105, 110, 118, 97, 108, 105, 100, 32, 115, 121, 110, 116, 97, 120]⟩] 242, .map #[⟨.int .u8 8, .int .u8 0, 0⟩, ⟨.int .u8 13, .int .u8 14, 1⟩, ⟨.int .u8 17, .int .u8 18, 2⟩] 3], #[], []⟩
  let put (h : Array Obj) (g : Nat) (cs : Array Value) : Array Obj := h.modify g fun
    | .cells _ t frozen => .cells cs t frozen
    | o => o
  let h1 := put w0.heap 10 (flat Rows.laid_math_bits_deBruijn32tab)
  let h2 := put h1 11 (flat Rows.laid_math_bits_deBruijn64tab)
  let h3 := put h2 6 (flat Rows.laid_internal_strconv_uint64pow10)
  let h4 := put h3 9 (flat Rows.laid_unicode_utf8_acceptRanges)
  let h4a := put h4 2 (flat Rows.laid_baffle_assured_byState)
  let h4b := put h4a 12 #[.map (some (low + 2))]
  let h5 := put h4b 1 (flat Rows.laid_baffle_pkt_names)
  let h6 := put h5 3 (flat Rows.laid_baffle_assured_names)
  let h7 := put h6 5 #[.iface 240 (.pointer (some ⟨low, 0, none⟩))]
  let h8 := put h7 4 #[.iface 240 (.pointer (some ⟨low + 1, 0, none⟩))]
  let h9 := put h8 0 (flat Rows.laid_baffle_dump_sides)
  let h10 := put h9 8 (flat Rows.laid_unicode_utf8_first)
  { w0 with heap := h10 }
set_option maxRecDepth 100000 in
theorem laid_met (os : Os) (args : Array Value) : laidMet Tryz.prog laidList ((laidWorld os).forCall (fun _ _ => 0) ⟨#[], args, []⟩).memory :=
  laidMet_of_run' 8 (by kernel_rfl) (by kernel_rfl)
end Go.Proofs.YtlbbepgfjigjpaaGreatDoor.LF
namespace Go.Proofs.YtlbbepgfjigjpaaGreatDoor
open Go.RowKit Go.Ab
theorem smC : SmC where
  tx := fun l s W g b => by
    have h := texts_any l s.data.toList W g b
    have e : (⟨s.data.toList.toArray⟩ : ByteArray) = s := by cases s; simp
    rw [e] at h
    exact h
  ls := fun a b l va vb vl W g ha hb hl na nb nl ba bb => lists_any a b l va vb vl W g ha hb hl na nb nl ba bb
  ap := fun a l va vl W ha hl na nl ba bl la ll => applies_any a l va vl W ha hl na nl ba bl la ll
  co := fun c l v W g hc hb hv hno => counters_any c l v W g hc hb hv hno
end Go.Proofs.YtlbbepgfjigjpaaGreatDoor
