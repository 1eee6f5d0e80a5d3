/- What a row's list of laid variables and its world's shape give. A world for the witness: the settled one, the listed variables holding what their initialisers lay. Arguments opened: lines and changes of layer 38, by value and in slices. The laws' own comparing of dumps. In a region that only reads and draws its order: loads of rows of cells, structs built. Rows of lines into which lines are stored; loads and stores in a region that draws its order. The laws of single operations behind a seal: 'refine' looks at a goal's weak head normal form; the seal keeps it from unfolding the walk. -/
import Derived.Test.YtlbbepgfjigjpaaGreatDoorCards
import Derived.Test.YtlbbepgfjigjpaaGreatDoorTie
import Derived.Test.YtlbbepgfjigjpaaGreatDoorNames
import Derived.Test.YtlbbepgfjigjpaaGreatDoorWrap
import Derived.Test.YtlbbepgfjigjpaaGreatDoorDC
import Derived.Deep.DeepHandedRow
import Derived.Deep.DeepWitnessRowRef
import Derived.Lib.LaidTab
import Derived.Stop.LaidErr
import Derived.Shelf.Vars
import Derived.Test.YtlbbepgfjigjpaaGreatDoorDAw
import Derived.Lib.SmallJoins
import Derived.Deep.Slices
import Derived.Deep.Fields
import Derived.ChangeMaps5
import Derived.Test.YtlbbepgfjigjpaaGreatDoorInst
import Derived.Deep.MidRow
import Derived.Test.YtlbbepgfjigjpaaGreatDoorDBuild
import Derived.Test.YtlbbepgfjigjpaaGreatDoorInRound
import Derived.Maps.RangeWalk
namespace Go.Proofs.YtlbbepgfjigjpaaGreatDoor
open Go.ChangeShapes Go.WideShapes Go.ChangeAt Go.RowKit Go.Ab
theorem own : ownKnob Tryz.prog.godebug = none := by kernel_rfl
theorem laidOut : laidOutB Tryz.prog = true := by kernel_rfl
def sidesL : List (List UInt8) := [insideW, outsideW]
/-- The rows' list. -/
def laidList : List (String × DataW Unit) := [("math/bits.deBruijn32tab", Rows.laid_math_bits_deBruijn32tab), ("math/bits.deBruijn64tab", Rows.laid_math_bits_deBruijn64tab), ("internal/strconv.uint64pow10", Rows.laid_internal_strconv_uint64pow10), ("unicode/utf8.acceptRanges", Rows.laid_unicode_utf8_acceptRanges), ("baffle/pkt.names", Rows.laid_baffle_pkt_names), ("baffle/assured.names", Rows.laid_baffle_assured_names), ("strconv.ErrRange", Rows.laid_strconv_ErrRange), ("strconv.ErrSyntax", Rows.laid_strconv_ErrSyntax), ("baffle/dump.sides", Rows.laid_baffle_dump_sides), ("unicode/utf8.first", Rows.laid_unicode_utf8_first)]
theorem star : "*" ++ "errors.errorString" = "*errors.errorString" := by decide
theorem rowErr (u : TypeId) (h : Tryz.prog.typeName? 3 u = some "*errors.errorString") : u = 240 :=
  typeName_ptr_named (nm := "errors.errorString") (by rw [star]; kernel_rfl) (by kernel_rfl) (by decide) u (by rw [star]; exact h)
theorem good_of {W : World} (h : laidMetH Tryz.prog laidList W) (hs : W.ShapedOpen Tryz.prog) : Good W := by
  have hL : laidMet Tryz.prog laidList W := h
  unfold laidList at hL
  refine ⟨?_, ?_, ?_, ?_⟩
  · exact cell_of_shapedOpen_int (P := Tryz.prog) (g := 7) (t := 3) (zero := #[.int .i64 0]) hs (of_decide_eq_true (by kernel_rfl)) (by kernel_rfl) rfl (by kernel_rfl) (by kernel_rfl) Tryz.underlying3
  · obtain ⟨a, s, hv, _, _, _⟩ := laid_sentinel hL.tail.tail.tail.tail.tail.tail.tail (g := 4) (ti := 113) (tp := 240) (te := 242) (ts := 9) (by kernel_rfl) (by kernel_rfl) Tryz.underlying113 rowErr Tryz.underlying240 Tryz.underlying242 rfl rfl Tryz.underlying9 (by kernel_rfl) (by kernel_rfl)
    exact ⟨_, by simpa using World.var?_cell (show Tryz.prog.globalNamed "strconv.ErrSyntax" = some 4 by kernel_rfl) hv 0, .inr ⟨_, _, rfl⟩⟩
  · obtain ⟨a, s, hv, _, _, _⟩ := laid_sentinel hL.tail.tail.tail.tail.tail.tail (g := 5) (ti := 113) (tp := 240) (te := 242) (ts := 9) (by kernel_rfl) (by kernel_rfl) Tryz.underlying113 rowErr Tryz.underlying240 Tryz.underlying242 rfl rfl Tryz.underlying9 (by kernel_rfl) (by kernel_rfl)
    exact ⟨_, by simpa using World.var?_cell (show Tryz.prog.globalNamed "strconv.ErrRange" = some 5 by kernel_rfl) hv 0, .inr ⟨_, _, rfl⟩⟩
  · exact Lib.tabIs_of_head (g := 6) (by kernel_rfl) (t := 230) (by kernel_rfl) Tryz.underlying230 Tryz.underlying199 (by kernel_rfl) (by kernel_rfl) hL.tail.tail
theorem namesL_of {W : World} (h : laidMetH Tryz.prog laidList W) : ∀ (i : Nat) s, namesL[i]? = some s → W.cell? ⟨1, i, none⟩ = some (.string ⟨s.toArray⟩) := by
  have hL : laidMet Tryz.prog laidList W := h
  unfold laidList at hL
  have hk : laidMet Tryz.prog (("baffle/pkt.names", strData namesL) :: _) W := hL.tail.tail.tail.tail
  exact (strs_of_head (g := 1) (t := 134) (e := 9) (by kernel_rfl) (by kernel_rfl) Tryz.underlying134 Tryz.underlying9 (by kernel_rfl) (by kernel_rfl) hk).cell (by kernel_rfl)
theorem clsL_of {W : World} (h : laidMetH Tryz.prog laidList W) : ∀ (i : Nat) s, clsL[i]? = some s → W.cell? ⟨3, i, none⟩ = some (.string ⟨s.toArray⟩) := by
  have hL : laidMet Tryz.prog laidList W := h
  unfold laidList at hL
  have hk : laidMet Tryz.prog (("baffle/assured.names", strData clsL) :: _) W := hL.tail.tail.tail.tail.tail
  exact (strs_of_head (g := 3) (t := 148) (e := 9) (by kernel_rfl) (by kernel_rfl) Tryz.underlying148 Tryz.underlying9 (by kernel_rfl) (by kernel_rfl) hk).cell (by kernel_rfl)
theorem sidesL_of {W : World} (h : laidMetH Tryz.prog laidList W) : ∀ (i : Nat) s, sidesL[i]? = some s → W.cell? ⟨0, i, none⟩ = some (.string ⟨s.toArray⟩) := by
  have hL : laidMet Tryz.prog laidList W := h
  unfold laidList at hL
  have hk : laidMet Tryz.prog (("baffle/dump.sides", strData sidesL) :: _) W := hL.tail.tail.tail.tail.tail.tail.tail.tail
  exact (strs_of_head (g := 0) (t := 106) (e := 9) (by kernel_rfl) (by kernel_rfl) Tryz.underlying106 Tryz.underlying9 (by kernel_rfl) (by kernel_rfl) hk).cell (by kernel_rfl)
theorem goodN_of {W : World} (h : laidMetH Tryz.prog laidList W) (hs : W.ShapedOpen Tryz.prog) : GoodN W := ⟨good_of h hs, namesL_of h⟩
theorem goodD_of {W : World} (h : laidMetH Tryz.prog laidList W) (hs : W.ShapedOpen Tryz.prog) : GoodD W := ⟨goodN_of h hs, clsL_of h, sidesL_of h 0 _ rfl, sidesL_of h 1 _ rfl⟩
end Go.Proofs.YtlbbepgfjigjpaaGreatDoor
namespace Go.Proofs.YtlbbepgfjigjpaaGreatDoor
open Go.ChangeShapes Go.WideShapes Go.ChangeAt Go.RowKit Go.Ab
noncomputable def low : Nat := (World.holding Tryz.prog default ⟨#[], #[], []⟩).heap.size
/-- The cells of a laid table, in text order. -/
def flat (d : DataW Unit) : Array Value :=
  let one : DataW Unit → List Value := fun
    | .lit (.int k z) => [.int k z]
    | .lit (.string s) => [.string ⟨s.toArray⟩]
    | _ => []
  match d with
  | .agg l => (l.flatMap fun
    | .agg l2 => l2.flatMap one
    | x => one x).toArray
  | _ => #[]
noncomputable def laidWorld (os : Os) : World :=
  let w0 := World.holding Tryz.prog os ⟨#[.cells #[.string ⟨#[118, 97, 108, 117, 101, 32, 111, 117, 116, 32, 111, 102, 32, 114, 97, 110, 103, 101]⟩] 242, .cells #[.string ⟨#[105, 110, 118, 97, 108, 105, 100, 32, 115, 121, 110, 116, 97, 120]⟩] 242], #[], []⟩
  let put (h : Array Obj) (g : Nat) (cs : Array Value) : Array Obj := h.modify g fun
    | .cells _ t frozen => .cells cs t frozen
    | o => o
  let h1 := put w0.heap 10 (flat Rows.laid_math_bits_deBruijn32tab)
  let h2 := put h1 11 (flat Rows.laid_math_bits_deBruijn64tab)
  let h3 := put h2 6 (flat Rows.laid_internal_strconv_uint64pow10)
  let h4 := put h3 9 (flat Rows.laid_unicode_utf8_acceptRanges)
  let h5 := put h4 1 (flat Rows.laid_baffle_pkt_names)
  let h6 := put h5 3 (flat Rows.laid_baffle_assured_names)
  let h7 := put h6 5 #[.iface 240 (.pointer (some ⟨low, 0, none⟩))]
  let h8 := put h7 4 #[.iface 240 (.pointer (some ⟨low + 1, 0, none⟩))]
  let h9 := put h8 0 (flat Rows.laid_baffle_dump_sides)
  let h10 := put h9 8 (flat Rows.laid_unicode_utf8_first)
  { w0 with heap := h10 }
set_option maxRecDepth 100000 in
theorem laid_met (os : Os) (args : Array Value) : laidMet Tryz.prog laidList ((laidWorld os).forCall (fun _ _ => 0) ⟨#[], args, []⟩).memory :=
  laidMet_of_run' 8 (by kernel_rfl) (by kernel_rfl)
end Go.Proofs.YtlbbepgfjigjpaaGreatDoor
namespace Go.Proofs.YtlbbepgfjigjpaaGreatDoor
open Go.ChangeShapes Go.WideShapes Go.ChangeAt Go.RowKit Go.Ab Go.Joins
open Go.Deep
end Go.Proofs.YtlbbepgfjigjpaaGreatDoor
namespace Go.Ab
open Go.Proofs.YtlbbepgfjigjpaaGreatDoor
structure ChB (c : Ch) : Prop where
  k0 : 0 ≤ c.kind
  k1 : c.kind < 256
  old : LnB c.old
  new : LnB c.new
end Go.Ab
namespace Go.Proofs.YtlbbepgfjigjpaaGreatDoor
open Go.ChangeShapes Go.WideShapes Go.ChangeAt Go.RowKit Go.Ab Go.Joins
open Go.Deep
section
variable {H : Type} {enc : TypeId × Value → H} {W : World} {base : Nat} {sp : Nat → Bool} {held : Bool}
end
end Go.Proofs.YtlbbepgfjigjpaaGreatDoor
namespace Go.Ab
open Go.RowKit Go.Proofs.YtlbbepgfjigjpaaGreatDoor
theorem ln_ne_at {a b : List Ln} {k : Nat} {x y : Ln} (ha : a[k]? = some x) (hb : b[k]? = some y) (h : ¬ x = y) : (a == b) = false := by
  rw [beq_eq_false_iff_ne]
  rintro rfl
  rw [ha] at hb
  exact h (by simpa using hb)
end Go.Ab
namespace Go.Proofs.YtlbbepgfjigjpaaGreatDoor
open Go.RowKit Go.Ab
theorem lnSizeS : (Tryz.prog.info? 31).map (·.size) = some 11 := by kernel_rfl
theorem eq_ln (x y : Ln) (w : World) : (Op.equalIn 10000 31 (.agg x.cells.toArray) (.agg y.cells.toArray)).run Tryz.prog w = .ok (decide (x = y)) w := by
  obtain ⟨p1, p2, p3, p4, p5, p6, p7, p8, p9, p10, p11⟩ := x
  obtain ⟨r1, r2, r3, r4, r5, r6, r7, r8, r9, r10, r11⟩ := y
  refine (eq_line w _ _ _ _ _ _ _ _ _ _ _ _ _ _ _ _ _ _ _ _ _ _).trans (congrArg (Result.ok · w) ?_)
  rw [Bool.eq_iff_iff]
  simp
set_option maxHeartbeats 8000000 in
set_option maxRecDepth 100000 in
theorem dsame_any (a b : List Ln) (va vb : Value) (w : World) (ha : LnRow w va a) (hb : LnRow w vb b) (la : a.length ≤ 1000000) (lb : b.length ≤ 1000000) : Gives Tryz.prog 30 #[va, vb] w (.bool (a == b)) := by
  obtain ⟨p, cap, rfl, hle, hc⟩ := ha
  obtain ⟨q, cap2, rfl, hle2, hd⟩ := hb
  obtain ⟨N, hN⟩ : ∃ N, a.length = N := ⟨_, rfl⟩
  obtain ⟨M, hM⟩ : ∃ M, b.length = M := ⟨_, rfl⟩
  rw [hN] at hle la ⊢
  rw [hM] at hle2 lb ⊢
  have HN := Lib.hid hN
  have HM := Lib.hid hM
  have Hc := Lib.hid hc
  have Hd := Lib.hid hd
  clear hN hM hc hd
  unfold Gives
  by_cases hNM : N = M
  · subst hNM
    go_enter Tryz.func30, Tryz.ntmps30
    go_wp2_with fail
    go_loopw [13] (fun i wr => ∃ k : Nat, k ≤ N ∧ i = .int .i64 (k : Int) ∧ Hid (∀ j, j < k → a[j]? = b[j]?) ∧ ∃ x : Ext w, wr = x.w) (fun i _ => N - (intOf i).toNat)
    case atStart => exact ⟨0, Nat.zero_le _, rfl, Lib.hid (fun j hj => absurd hj (Nat.not_lt_zero j)), (Up.refl w).mk⟩
    case round =>
      obtain ⟨k, hk, rfl, Hk, x0, rfl⟩ := hrel
      by_cases hlt : k < N
      · have hlt' : (k : Int) < (N : Int) := by omega
        have k0 : (0 : Int) ≤ (k : Int) := by omega
        obtain ⟨x, hs⟩ : ∃ x, a[k]? = some x := ⟨_, List.getElem?_eq_getElem (by rw [HN.out]; exact hlt)⟩
        obtain ⟨y, ht⟩ : ∃ y, b[k]? = some y := ⟨_, List.getElem?_eq_getElem (by rw [HM.out]; exact hlt)⟩
        obtain ⟨b1, o1, rfl, hb1, hc1⟩ := Hc.out k x hs
        obtain ⟨b2, o2, rfl, hb2, hc2⟩ := Hd.out k y ht
        haveI : LtSize b1 w := ⟨hb1⟩
        haveI : LtSize b2 w := ⟨hb2⟩
        have Hs := Lib.hid hs
        have Ht := Lib.hid ht
        have hX : x0.w.rangeAt b1 (o1 + k * 11) x.cells := fun j u hj => x0.up.cell_some (hc1 j u hj)
        have hY : x0.w.rangeAt b2 (o2 + k * 11) y.cells := fun j u hj => x0.up.cell_some (hc2 j u hj)
        have hEq0 := fun W => eq_ln x y W
        clear hc1 hc2 hs ht
        by_cases he : x = y
        · have E := Lib.hid (show a[k]? = b[k]? by rw [Hs.out, Ht.out, he])
          have hEq : ∀ W, (Op.equalIn 10000 31 (.agg x.cells.toArray) (.agg y.cells.toArray)).run Tryz.prog W = .ok true W := fun W => by rw [hEq0, decide_eq_true he]
          clear he hEq0
          go_wp2_with fail
          refine wp_region_rel2 (relAt [isV (.slice (some ⟨b1, o1, none⟩) N cap), isV (.int .i64 (k : Int)), isV (.pointer (some ⟨b1, o1 + k * 11, none⟩)), isV (.agg x.cells.toArray), isV (.slice (some ⟨b2, o2, none⟩) N cap2), isV (.int .i64 (k : Int)), isV (.pointer (some ⟨b2, o2 + k * 11, none⟩)), isV (.agg y.cells.toArray), isV (.bool false)]) [16, 17, 18, 19, 20, 21, 22, 23, 24] 26 (by kernel_rfl) (by kernel_rfl) (by kernel_rfl) rfl (relAt_mono ?hmono) ⟨?o0, ?o1, ?o2, ?o3, ?o4, ?o5, ?o6, ?o7, ?o8, trivial⟩ ?hend
          case hmono =>
            intro r hr v W1 W2 h1 hu
            simp only [List.mem_cons, List.not_mem_nil, or_false] at hr
            rcases hr with rfl | rfl | rfl | rfl | rfl | rfl | rfl | rfl | rfl
            all_goals exact h1
          case o0 =>
            intro vs W' F Y E hu hd
            have s0 := E.eout 0 (.slice (some ⟨b1, o1, none⟩) N cap) rfl rfl
            exact rel_val (v := .slice (some ⟨b1, o1, none⟩) N cap) rfl (by simp [go_sem, s0]) (Up.refl _) rfl
          case o1 =>
            intro vs W' F Y E hu hd
            have s0 := E.eout 5 (.int .i64 (k : Int)) rfl rfl
            exact rel_val (v := .int .i64 (k : Int)) rfl (by simp [go_sem, s0]) (Up.refl _) rfl
          case o2 =>
            intro vs W' F Y E hu hd
            have d0 : vs 0 = .slice (some ⟨b1, o1, none⟩) N cap := hd ⟨0, .data⟩ (by simp) rfl
            have t0 := E.ein 0 16 _ rfl (by decide) d0
            have d1 : vs 1 = .int .i64 (k : Int) := hd ⟨1, .data⟩ (by simp) rfl
            have t1 := E.ein 1 17 _ rfl (by decide) d1
            exact rel_val (v := .pointer (some ⟨b1, o1 + k * 11, none⟩)) rfl (by simp [go_sem, t0, t1, k0, hlt']) (Up.refl _) rfl
          case o3 =>
            intro vs W' F Y E hu hd
            have d2 : vs 2 = .pointer (some ⟨b1, o1 + k * 11, none⟩) := hd ⟨2, .data⟩ (by simp) rfl
            have t2 := E.ein 2 18 _ rfl (by decide) d2
            exact rel_load rfl _ _ rfl b1 (o1 + k * 11) (by simp [go_sem, t2]) x.cells _ (fun j u hj => hu.cell_some (hX j u hj)) Tryz.underlying31 rfl lnSizeS rfl
          case o4 =>
            intro vs W' F Y E hu hd
            have s0 := E.eout 1 (.slice (some ⟨b2, o2, none⟩) N cap2) rfl rfl
            exact rel_val (v := .slice (some ⟨b2, o2, none⟩) N cap2) rfl (by simp [go_sem, s0]) (Up.refl _) rfl
          case o5 =>
            intro vs W' F Y E hu hd
            have s0 := E.eout 5 (.int .i64 (k : Int)) rfl rfl
            exact rel_val (v := .int .i64 (k : Int)) rfl (by simp [go_sem, s0]) (Up.refl _) rfl
          case o6 =>
            intro vs W' F Y E hu hd
            have d4 : vs 4 = .slice (some ⟨b2, o2, none⟩) N cap2 := hd ⟨4, .data⟩ (by simp) rfl
            have t4 := E.ein 4 20 _ rfl (by decide) d4
            have d5 : vs 5 = .int .i64 (k : Int) := hd ⟨5, .data⟩ (by simp) rfl
            have t5 := E.ein 5 21 _ rfl (by decide) d5
            exact rel_val (v := .pointer (some ⟨b2, o2 + k * 11, none⟩)) rfl (by simp [go_sem, t4, t5, k0, hlt']) (Up.refl _) rfl
          case o7 =>
            intro vs W' F Y E hu hd
            have d6 : vs 6 = .pointer (some ⟨b2, o2 + k * 11, none⟩) := hd ⟨6, .data⟩ (by simp) rfl
            have t6 := E.ein 6 22 _ rfl (by decide) d6
            exact rel_load rfl _ _ rfl b2 (o2 + k * 11) (by simp [go_sem, t6]) y.cells _ (fun j u hj => hu.cell_some (hY j u hj)) Tryz.underlying31 rfl lnSizeS rfl
          case o8 =>
            intro vs W' F Y E hu hd
            have d3 : vs 3 = .agg x.cells.toArray := hd ⟨3, .data⟩ (by simp) rfl
            have t3 := E.ein 3 19 _ rfl (by decide) d3
            have d7 : vs 7 = .agg y.cells.toArray := hd ⟨7, .data⟩ (by simp) rfl
            have t7 := E.ein 7 23 _ rfl (by decide) d7
            exact rel_val (v := .bool false) rfl (by simp [go_sem, t3, t7, hEq]) (Up.refl _) rfl
          case hend =>
            intro vs W' hu hall
            have d8 : vs 8 = .bool false := hall 8 (by simp)
            obtain ⟨x9, rfl⟩ := hu.mk
            simp only [fillL, Act.put, List.setIfInBounds_toArray, List.set_cons_zero, List.set_cons_succ, d8]
            go_wp2_with fail
            go_roundw
            case rel => exact ⟨k + 1, by omega, by go_num, Lib.hid (fun j hj => by rcases Nat.lt_or_eq_of_le (Nat.le_of_lt_succ hj) with h | h; exact Hk.out j h; rw [h]; exact E.out), mkI⟩
            case measure => simp [intOf]; omega
        · have E := Lib.hid (ln_ne_at Hs.out Ht.out he)
          have hEq : ∀ W, (Op.equalIn 10000 31 (.agg x.cells.toArray) (.agg y.cells.toArray)).run Tryz.prog W = .ok false W := fun W => by rw [hEq0, decide_eq_false he]
          clear he hEq0
          go_wp2_with fail
          refine wp_region_rel2 (relAt [isV (.slice (some ⟨b1, o1, none⟩) N cap), isV (.int .i64 (k : Int)), isV (.pointer (some ⟨b1, o1 + k * 11, none⟩)), isV (.agg x.cells.toArray), isV (.slice (some ⟨b2, o2, none⟩) N cap2), isV (.int .i64 (k : Int)), isV (.pointer (some ⟨b2, o2 + k * 11, none⟩)), isV (.agg y.cells.toArray), isV (.bool true)]) [16, 17, 18, 19, 20, 21, 22, 23, 24] 26 (by kernel_rfl) (by kernel_rfl) (by kernel_rfl) rfl (relAt_mono ?hmono) ⟨?o0, ?o1, ?o2, ?o3, ?o4, ?o5, ?o6, ?o7, ?o8, trivial⟩ ?hend
          case hmono =>
            intro r hr v W1 W2 h1 hu
            simp only [List.mem_cons, List.not_mem_nil, or_false] at hr
            rcases hr with rfl | rfl | rfl | rfl | rfl | rfl | rfl | rfl | rfl
            all_goals exact h1
          case o0 =>
            intro vs W' F Y E hu hd
            have s0 := E.eout 0 (.slice (some ⟨b1, o1, none⟩) N cap) rfl rfl
            exact rel_val (v := .slice (some ⟨b1, o1, none⟩) N cap) rfl (by simp [go_sem, s0]) (Up.refl _) rfl
          case o1 =>
            intro vs W' F Y E hu hd
            have s0 := E.eout 5 (.int .i64 (k : Int)) rfl rfl
            exact rel_val (v := .int .i64 (k : Int)) rfl (by simp [go_sem, s0]) (Up.refl _) rfl
          case o2 =>
            intro vs W' F Y E hu hd
            have d0 : vs 0 = .slice (some ⟨b1, o1, none⟩) N cap := hd ⟨0, .data⟩ (by simp) rfl
            have t0 := E.ein 0 16 _ rfl (by decide) d0
            have d1 : vs 1 = .int .i64 (k : Int) := hd ⟨1, .data⟩ (by simp) rfl
            have t1 := E.ein 1 17 _ rfl (by decide) d1
            exact rel_val (v := .pointer (some ⟨b1, o1 + k * 11, none⟩)) rfl (by simp [go_sem, t0, t1, k0, hlt']) (Up.refl _) rfl
          case o3 =>
            intro vs W' F Y E hu hd
            have d2 : vs 2 = .pointer (some ⟨b1, o1 + k * 11, none⟩) := hd ⟨2, .data⟩ (by simp) rfl
            have t2 := E.ein 2 18 _ rfl (by decide) d2
            exact rel_load rfl _ _ rfl b1 (o1 + k * 11) (by simp [go_sem, t2]) x.cells _ (fun j u hj => hu.cell_some (hX j u hj)) Tryz.underlying31 rfl lnSizeS rfl
          case o4 =>
            intro vs W' F Y E hu hd
            have s0 := E.eout 1 (.slice (some ⟨b2, o2, none⟩) N cap2) rfl rfl
            exact rel_val (v := .slice (some ⟨b2, o2, none⟩) N cap2) rfl (by simp [go_sem, s0]) (Up.refl _) rfl
          case o5 =>
            intro vs W' F Y E hu hd
            have s0 := E.eout 5 (.int .i64 (k : Int)) rfl rfl
            exact rel_val (v := .int .i64 (k : Int)) rfl (by simp [go_sem, s0]) (Up.refl _) rfl
          case o6 =>
            intro vs W' F Y E hu hd
            have d4 : vs 4 = .slice (some ⟨b2, o2, none⟩) N cap2 := hd ⟨4, .data⟩ (by simp) rfl
            have t4 := E.ein 4 20 _ rfl (by decide) d4
            have d5 : vs 5 = .int .i64 (k : Int) := hd ⟨5, .data⟩ (by simp) rfl
            have t5 := E.ein 5 21 _ rfl (by decide) d5
            exact rel_val (v := .pointer (some ⟨b2, o2 + k * 11, none⟩)) rfl (by simp [go_sem, t4, t5, k0, hlt']) (Up.refl _) rfl
          case o7 =>
            intro vs W' F Y E hu hd
            have d6 : vs 6 = .pointer (some ⟨b2, o2 + k * 11, none⟩) := hd ⟨6, .data⟩ (by simp) rfl
            have t6 := E.ein 6 22 _ rfl (by decide) d6
            exact rel_load rfl _ _ rfl b2 (o2 + k * 11) (by simp [go_sem, t6]) y.cells _ (fun j u hj => hu.cell_some (hY j u hj)) Tryz.underlying31 rfl lnSizeS rfl
          case o8 =>
            intro vs W' F Y E hu hd
            have d3 : vs 3 = .agg x.cells.toArray := hd ⟨3, .data⟩ (by simp) rfl
            have t3 := E.ein 3 19 _ rfl (by decide) d3
            have d7 : vs 7 = .agg y.cells.toArray := hd ⟨7, .data⟩ (by simp) rfl
            have t7 := E.ein 7 23 _ rfl (by decide) d7
            exact rel_val (v := .bool true) rfl (by simp [go_sem, t3, t7, hEq]) (Up.refl _) rfl
          case hend =>
            intro vs W' hu hall
            have d8 : vs 8 = .bool true := hall 8 (by simp)
            obtain ⟨x9, rfl⟩ := hu.mk
            simp only [fillL, Act.put, List.setIfInBounds_toArray, List.set_cons_zero, List.set_cons_succ, d8]
            go_wp2_with fail
            go_ret
            exact ⟨ret_bool E.out.symm, mkI⟩
      · have hlt' : (N : Int) ≤ (k : Int) := by omega
        have E := Lib.hid (show (a == b) = true by
          rw [beq_iff_eq]
          apply List.ext_getElem?
          intro j
          by_cases hj : j < N
          · exact Hk.out j (by omega)
          · rw [List.getElem?_eq_none (by rw [HN.out]; omega), List.getElem?_eq_none (by rw [HM.out]; omega)])
        clear hk hlt
        go_wp2_with fail
        go_ret
        exact ⟨ret_bool E.out.symm, mkI⟩
  · have E := Lib.hid (show (a == b) = false by
      rw [beq_eq_false_iff_ne]
      rintro rfl
      exact hNM (HN.out.symm.trans HM.out))
    have hNM' : ((N : Int) == (M : Int)) = false := by rw [beq_eq_false_iff_ne]; omega
    go_enter Tryz.func30, Tryz.ntmps30
    go_wp2_with fail
    go_ret
    exact ⟨ret_bool E.out.symm, mkI⟩
end Go.Proofs.YtlbbepgfjigjpaaGreatDoor
namespace Go.Ab
open Go.RowKit
section
variable {P : Program} {ops : Array Oper} {C : World → Prop} {Q : Act → Prop} {a : Act} {o : Oper} {rest : List Oper}
theorem wpQuiet_load_mid (hw : Region.wanted o (yielded ops a.tmps) = true) (ty : TypeId) (x : Operand) (ho : o.op = .load ty x)
    (b f : Nat) (hx : a.eval x = .pointer (some ⟨b, f, none⟩)) (cs : List Value) (d : TypeDesc) (hc : ∀ w, C w → w.rangeAt b f cs)
    (hu : P.underlying ty = some d) (hd : d.isRow = true) (hi : (P.info? ty).map (·.size) = some cs.length)
    (h : wpQuiet P ops C Q rest (a.put o.dst (.agg cs.toArray))) : wpQuiet P ops C Q (o :: rest) a :=
  BigFrame.wpQuiet_want hw fun _ hK => ⟨_, fun w hC => by
    unfold Oper.quietAt execOp
    simp only [ho, hx, Instr.loadAt, Instr.sureAddr, Sem.run_bind, Sem.run_pure, Result.andThen_ok, run_loadVar_mid w b f ty cs d (hc w hC) hu hd hi]
    exact ⟨rfl, rfl⟩, hK _ h⟩
theorem wpQuiet_build (hw : Region.wanted o (yielded ops a.tmps) = true) (t : TypeId) (parts : Array (Nat × Operand)) (ho : o.op = .build t parts) (ps : Array (Nat × Value)) (hp : (parts.map fun (i, x) => (i, a.eval x)) = ps) (v : Value)
    (hr : ∀ w, (Instr.build t ps).run P w = .ok v w) (h : wpQuiet P ops C Q rest (a.put o.dst v)) : wpQuiet P ops C Q (o :: rest) a :=
  BigFrame.wpQuiet_want hw fun _ hK => ⟨v, fun w _ => by
    subst hp
    unfold Oper.quietAt execOp
    simp only [ho, Sem.run_bind, hr, Result.andThen_ok]
    exact ⟨rfl, rfl⟩, hK _ h⟩
end
theorem range_ext {w : World} {b f : Nat} {cs : List Value} (h : w.rangeAt b f cs) : ∀ w', (∃ x : Ext w, w' = x.w) → w'.rangeAt b f cs := fun _ ⟨x, hx⟩ j u hj => hx ▸ x.up.cell_some' (h j u hj)
end Go.Ab
namespace Go.Ab
open Go.RowKit Go.Proofs.YtlbbepgfjigjpaaGreatDoor
section
variable {P : Program} {ops : Array Oper} {o : Oper} {a : Act} {w : World} {K : Act → World → Prop} {Q : Exit → Act → World → Prop} {E : Prop}
theorem step_load_mid (hw : Region.wanted o (yielded ops a.tmps) = true) (ty : TypeId) (x : Operand) (ho : o.op = .load ty x)
    (b f : Nat) (hx : a.eval x = .pointer (some ⟨b, f, none⟩)) (cs : List Value) (d : TypeDesc) (hc : w.rangeAt b f cs)
    (hu : P.underlying ty = some d) (hd : d.isRow = true) (hi : (P.info? ty).map (·.size) = some cs.length) (h : K (a.put o.dst (.agg cs.toArray)) w) :
    if Region.wanted o (yielded ops a.tmps) = true then o.wp P a w K Q else E := by
  rw [if_pos hw]
  exact wp_load_mid ty x ho b f hx cs d hc hu hd hi h
theorem step_slice (hw : Region.wanted o (yielded ops a.tmps) = true) (t : TypeId) (n : Nat) (parts : Array (Nat × Operand)) (ho : o.op = .buildSlice t n parts) (ps : Array (Nat × Value)) (hp : (parts.map fun (i, x) => (i, a.eval x)) = ps) (v : Value) (w' : World)
    (hr : (Instr.buildSlice t n ps).run P w = .ok v w') (h : K (a.put o.dst v) w') : if Region.wanted o (yielded ops a.tmps) = true then o.wp P a w K Q else E := by
  rw [if_pos hw]
  exact wp_sliceRun t n parts ho ps hp v w' hr h
end
section
variable {P : Program} {Q : Exit → Act → World → Prop}
theorem step_append_ownG {ops : Array Oper} {o : Oper} {a : Act} {w : World} {K : Act → World → Prop} {E : Prop} (hw : Region.wanted o (yielded ops a.tmps) = true) (s x : Operand) (t : TypeId)
    (hop : o.op = Op.call { callee := Callee.builtin Builtin.append, args := #[s, x], argTypes := #[t, t] })
    (base : Nat) (e : TypeId) (i : TypeInfo) (z : Value) (size bytes : Nat) (h1 : P.underlying t = some (.slice e)) (h2 : P.info? e = some i) (h3 : i.zero = some z) (h4 : i.size = size) (h5 : i.bytes = bytes) (h6 : z.cells.size = size) (h7 : 0 < size)
    (v : Value) (k : Nat) (xs : List Value) (hs : a.eval s = v) (hown : w.ownsRow base e size v k xs) (ad : Addr) (m c : Nat) (news : List Value) (hx : a.eval x = .slice (some ad) m c) (hn : news.length = m * size)
    (hc : ∀ j u, news[j]? = some u → w.cell? (ad.add j) = some u) (h1c : ∀ u ∈ news, u.oneCell' = true) (b1 : k + m ≤ maxLen) (b2 : (k + m) * bytes ≤ 140737488355328) (b3 : base ≤ w.heap.size)
    (hK : ∀ v' w', w'.ownsRow base e size v' (k + m) (xs ++ news) → w.grownBy w' v.ownBlock → K (a.put o.dst v') w') :
    if Region.wanted o (yielded ops a.tmps) = true then o.wp P a w K Q else E := by
  rw [if_pos hw]
  obtain ⟨v', w', hrun, r1, r2, _⟩ := run_append_own (P := P) w base t o.type e i z size bytes h1 h2 h3 h4 h5 h6 h7 v k xs hown ad m c news hn hc h1c b1 b2 b3
  unfold Oper.wp
  simp [execOp, hop, resolve, invoke, builtin, hs, hx, hrun, Result.andThen]
  exact hK _ _ r1 r2
end
end Go.Ab
namespace Go.Ab
open Go.RowKit Go.Proofs.YtlbbepgfjigjpaaGreatDoor
structure Held (p : Prop) : Prop where
  out : p
theorem held {p : Prop} (h : Held p) : p := h.out
section
variable {P : Program} {ops : Array Oper} {rest : List Oper} {o : Oper} {a : Act} {w : World} {Q : Exit → Act → World → Prop} {K : Act → World → Prop} {E : Prop} {C : World → Prop} {R : Act → Prop}
theorem H_load_mid (hgd : o.guard = none) (ty : TypeId) (x : Operand) (ho : o.op = .load ty x) (b f : Nat) (hx : a.eval x = .pointer (some ⟨b, f, none⟩)) (cs : List Value) (d : TypeDesc) (hc : w.rangeAt b f cs)
    (hu : P.underlying ty = some d) (hd : d.isRow = true) (hi : (P.info? ty).map (·.size) = some cs.length) (h : wpList P ops Q rest (a.put o.dst (.agg cs.toArray)) w) : Held (wpList P ops Q (o :: rest) a w) :=
  ⟨wpList_load_mid hgd ty x ho b f hx cs d hc hu hd hi h⟩
theorem H_load_row (hgd : o.guard = none) (ty : TypeId) (x : Operand) (ho : o.op = .load ty x) (g : Nat) (hx : a.eval x = .pointer (some ⟨g, 0, none⟩)) (t : TypeId) (cs : Array Value) (fr : Nat × Nat) (d : TypeDesc) (hg : w.heap[g]? = some (.cells cs t fr))
    (hu : P.underlying ty = some d) (hd : (match d with | .struct _ | .array _ _ => true | _ => false) = true) (hi : (P.info? ty).map (·.size) = some cs.size) (h : wpList P ops Q rest (a.put o.dst (.agg cs)) w) : Held (wpList P ops Q (o :: rest) a w) :=
  ⟨wpList_load_row hgd ty x ho g hx t cs fr d hg hu hd hi h⟩
theorem H_store_row (hgd : o.guard = none) (ty : TypeId) (x y : Operand) (ho : o.op = .store ty x y) (g : Nat) (cells : Array Value) (hx : a.eval x = .pointer (some ⟨g, 0, none⟩)) (hy : a.eval y = .agg cells)
    (t : TypeId) (old : Array Value) (hg : w.heap[g]? = some (.cells old t (0, 0))) (hi : (P.info? ty).map (·.size) = some cells.size) (hold : old.size = cells.size) (h1 : cells.all (·.oneCell') = true)
    (h : wpList P ops Q rest (a.put o.dst undef) (w.setRow g cells)) : Held (wpList P ops Q (o :: rest) a w) :=
  ⟨wpList_store_row hgd ty x y ho g cells hx hy t old hg hi hold h1 h⟩
theorem H_buildRun (hgd : o.guard = none) (t : TypeId) (parts : Array (Nat × Operand)) (ho : o.op = .build t parts) (ps : Array (Nat × Value)) (hp : (parts.map fun (i, x) => (i, a.eval x)) = ps) (v : Value) (w' : World)
    (hr : (Instr.build t ps).run P w = .ok v w') (h : wpList P ops Q rest (a.put o.dst v) w') : Held (wpList P ops Q (o :: rest) a w) := ⟨wpList_buildRun hgd t parts ho ps hp v w' hr h⟩
theorem H_sliceRun (hgd : o.guard = none) (t : TypeId) (n : Nat) (parts : Array (Nat × Operand)) (ho : o.op = .buildSlice t n parts) (ps : Array (Nat × Value)) (hp : (parts.map fun (i, x) => (i, a.eval x)) = ps) (v : Value) (w' : World)
    (hr : (Instr.buildSlice t n ps).run P w = .ok v w') (h : wpList P ops Q rest (a.put o.dst v) w') : Held (wpList P ops Q (o :: rest) a w) := ⟨wpList_sliceRun hgd t n parts ho ps hp v w' hr h⟩
theorem H_append_own (hgd : o.guard = none) (s x : Operand) (t : TypeId) (ho : o.op = .call { callee := .builtin .append, args := #[s, x], argTypes := #[t, t] })
    (base : Nat) (e : TypeId) (i : TypeInfo) (z : Value) (size bytes : Nat) (ht : P.underlying t = some (.slice e)) (hi : P.info? e = some i) (hz : i.zero = some z) (hsize : i.size = size) (hby : i.bytes = bytes) (hzs : z.cells.size = size) (hsz : 0 < size)
    (v : Value) (n : Nat) (xs : List Value) (hs : a.eval s = v) (hown : w.ownsRow base e size v n xs)
    (ad : Addr) (m c : Nat) (news : List Value) (hx : a.eval x = .slice (some ad) m c) (hl : news.length = m * size) (hnews : ∀ j u, news[j]? = some u → w.cell? (ad.add j) = some u) (h1 : ∀ u ∈ news, u.oneCell' = true)
    (h63 : n + m ≤ maxLen) (hbytes : (n + m) * bytes ≤ 140737488355328) (hbase : base ≤ w.heap.size)
    (h : ∀ v' w', w'.ownsRow base e size v' (n + m) (xs ++ news) → w.grownBy w' v.ownBlock → (v' = .slice none 0 0 ↔ v = .slice none 0 0 ∧ m = 0) → wpList P ops Q rest (a.put o.dst v') w') : Held (wpList P ops Q (o :: rest) a w) :=
  ⟨wpList_append_own w hgd s x t ho base e i z size bytes ht hi hz hsize hby hzs hsz v n xs hs hown ad m c news hx hl hnews h1 h63 hbytes hbase h⟩
theorem HQ_load_mid (hw : Region.wanted o (yielded ops a.tmps) = true) (ty : TypeId) (x : Operand) (ho : o.op = .load ty x) (b f : Nat) (hx : a.eval x = .pointer (some ⟨b, f, none⟩)) (cs : List Value) (d : TypeDesc) (hc : ∀ w, C w → w.rangeAt b f cs)
    (hu : P.underlying ty = some d) (hd : d.isRow = true) (hi : (P.info? ty).map (·.size) = some cs.length) (h : wpQuiet P ops C R rest (a.put o.dst (.agg cs.toArray))) : Held (wpQuiet P ops C R (o :: rest) a) :=
  ⟨wpQuiet_load_mid hw ty x ho b f hx cs d hc hu hd hi h⟩
theorem HQ_build (hw : Region.wanted o (yielded ops a.tmps) = true) (t : TypeId) (parts : Array (Nat × Operand)) (ho : o.op = .build t parts) (ps : Array (Nat × Value)) (hp : (parts.map fun (i, x) => (i, a.eval x)) = ps) (v : Value)
    (hr : ∀ w, (Instr.build t ps).run P w = .ok v w) (h : wpQuiet P ops C R rest (a.put o.dst v)) : Held (wpQuiet P ops C R (o :: rest) a) := ⟨wpQuiet_build hw t parts ho ps hp v hr h⟩
theorem HS_load_mid (hw : Region.wanted o (yielded ops a.tmps) = true) (ty : TypeId) (x : Operand) (ho : o.op = .load ty x) (b f : Nat) (hx : a.eval x = .pointer (some ⟨b, f, none⟩)) (cs : List Value) (d : TypeDesc) (hc : w.rangeAt b f cs)
    (hu : P.underlying ty = some d) (hd : d.isRow = true) (hi : (P.info? ty).map (·.size) = some cs.length) (h : K (a.put o.dst (.agg cs.toArray)) w) : Held (if Region.wanted o (yielded ops a.tmps) = true then o.wp P a w K Q else E) :=
  ⟨step_load_mid hw ty x ho b f hx cs d hc hu hd hi h⟩
theorem HS_slice (hw : Region.wanted o (yielded ops a.tmps) = true) (t : TypeId) (n : Nat) (parts : Array (Nat × Operand)) (ho : o.op = .buildSlice t n parts) (ps : Array (Nat × Value)) (hp : (parts.map fun (i, x) => (i, a.eval x)) = ps) (v : Value) (w' : World)
    (hr : (Instr.buildSlice t n ps).run P w = .ok v w') (h : K (a.put o.dst v) w') : Held (if Region.wanted o (yielded ops a.tmps) = true then o.wp P a w K Q else E) := ⟨step_slice hw t n parts ho ps hp v w' hr h⟩
theorem HS_build (hw : Region.wanted o (yielded ops a.tmps) = true) (t : TypeId) (parts : Array (Nat × Operand)) (ho : o.op = .build t parts) (ps : Array (Nat × Value)) (hp : (parts.map fun (i, x) => (i, a.eval x)) = ps) (v : Value) (w' : World)
    (hr : (Instr.build t ps).run P w = .ok v w') (h : K (a.put o.dst v) w') : Held (if Region.wanted o (yielded ops a.tmps) = true then o.wp P a w K Q else E) := ⟨by rw [if_pos hw]; exact wp_buildRun t parts ho ps hp v w' hr h⟩
theorem HS_append_own (hw : Region.wanted o (yielded ops a.tmps) = true) (s x : Operand) (t : TypeId) (hop : o.op = Op.call { callee := Callee.builtin Builtin.append, args := #[s, x], argTypes := #[t, t] })
    (base : Nat) (e : TypeId) (i : TypeInfo) (z : Value) (size bytes : Nat) (h1 : P.underlying t = some (.slice e)) (h2 : P.info? e = some i) (h3 : i.zero = some z) (h4 : i.size = size) (h5 : i.bytes = bytes) (h6 : z.cells.size = size) (h7 : 0 < size)
    (v : Value) (k : Nat) (xs : List Value) (hs : a.eval s = v) (hown : w.ownsRow base e size v k xs) (ad : Addr) (m c : Nat) (news : List Value) (hx : a.eval x = .slice (some ad) m c) (hn : news.length = m * size)
    (hc : ∀ j u, news[j]? = some u → w.cell? (ad.add j) = some u) (h1c : ∀ u ∈ news, u.oneCell' = true) (b1 : k + m ≤ maxLen) (b2 : (k + m) * bytes ≤ 140737488355328) (b3 : base ≤ w.heap.size)
    (hK : ∀ v' w', w'.ownsRow base e size v' (k + m) (xs ++ news) → w.grownBy w' v.ownBlock → K (a.put o.dst v') w') : Held (if Region.wanted o (yielded ops a.tmps) = true then o.wp P a w K Q else E) :=
  ⟨step_append_ownG hw s x t hop base e i z size bytes h1 h2 h3 h4 h5 h6 h7 v k xs hs hown ad m c news hx hn hc h1c b1 b2 b3 hK⟩
theorem HS_append_none (hw : Region.wanted o (yielded ops a.tmps) = true) (s x : Operand) (t : TypeId)
    (hop : o.op = Op.call { callee := Callee.builtin Builtin.append, args := #[s, x], argTypes := #[t, t] }) (base : Nat) (e : TypeId) (i : TypeInfo) (size : Nat) (ht : P.underlying t = some (.slice e)) (hi : P.info? e = some i)
    (v : Value) (n : Nat) (xs : List Value) (hs : a.eval s = v) (hown : w.ownsRow base e size v n xs) (hx : a.eval x = .slice none 0 0) (hK : K (a.put o.dst v) w) :
    Held (if Region.wanted o (yielded ops a.tmps) = true then o.wp P a w K Q else E) := ⟨by
  rw [if_pos hw]
  have hrun := run_append_owned_none (P := P) (w := w) base t o.type e i size ht hi v n xs hown
  unfold Oper.wp
  simp [execOp, hop, resolve, invoke, builtin, hs, hx, hrun, Result.andThen]
  exact hK⟩
end
/-- A small number, by instance: an equation on wrap64 in the context makes every omega slow. -/
class SmallN (m : Nat) : Prop where
  lt : m < 4611686018427387904
theorem wrapI (m : Nat) [h : SmallN m] : wrap64 (m : Int) = (m : Int) := IntWalk.wrap64_in _ ⟨by have := h.lt; omega, by have := h.lt; omega⟩
theorem wrapK (m : Nat) [SmallN m] : IntKind.i64.wrap (m : Int) = (m : Int) := (IntWalk.i64_left _).trans (wrapI m)
end Go.Ab
