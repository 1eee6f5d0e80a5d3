/- A world for the witness: the settled one, the listed variables holding what their initialisers lay. -/
import Derived.Test.YtdebpdjkkblcfaaGreatDoorTGood
namespace Go.Proofs.YtdebpdjkkblcfaaGreatDoor
open Go.ChangeShapes Go.WideShapes Go.ChangeAt Go.RowKit Go.Ab
noncomputable def low : Nat := (World.holding Tryz.prog default ⟨#[], #[], []⟩).heap.size
/-- The cells of a laid table, in text order. -/
def flat (d : DataW Unit) : Array Value :=
  let one : DataW Unit → List Value := fun
    | .lit (.int k z) => [.int k z]
    | .lit (.string s) => [.string ⟨s.toArray⟩]
    | _ => []
  match d with
  | .agg l => (l.flatMap fun
    | .agg l2 => l2.flatMap one
    | x => one x).toArray
  | _ => #[]
noncomputable def laidWorld (os : Os) : World :=
  let w0 := World.holding Tryz.prog os ⟨#[.cells #[.string ⟨#[118, 97, 108, 117, 101, 32, 111, 117, 116, 32, 111, 102, 32, 114, 97, 110, 103, 101]⟩] 176, .cells #[.string ⟨#[105, 110, 118, 97, 108, 105, 100, 32, 115, 121, 110, 116, 97, 120]⟩] 176], #[], []⟩
  let put (h : Array Obj) (g : Nat) (cs : Array Value) : Array Obj := h.modify g fun
    | .cells _ t frozen => .cells cs t frozen
    | o => o
  let h1 := put w0.heap 8 (flat Rows.laid_math_bits_deBruijn32tab)
  let h2 := put h1 9 (flat Rows.laid_math_bits_deBruijn64tab)
  let h3 := put h2 4 (flat Rows.laid_internal_strconv_uint64pow10)
  let h4 := put h3 7 (flat Rows.laid_unicode_utf8_acceptRanges)
  let h5 := put h4 1 (flat Rows.laid_baffle_pkt_names)
  let h6 := put h5 3 #[.iface 174 (.pointer (some ⟨low, 0, none⟩))]
  let h7 := put h6 2 #[.iface 174 (.pointer (some ⟨low + 1, 0, none⟩))]
  let h8 := put h7 0 (flat Rows.laid_baffle_trace_words)
  let h9 := put h8 6 (flat Rows.laid_unicode_utf8_first)
  { w0 with heap := h9 }
set_option maxRecDepth 100000 in
theorem laid_met (os : Os) (args : Array Value) : laidMet Tryz.prog laidList ((laidWorld os).forCall (fun _ _ => 0) ⟨#[], args, []⟩).memory :=
  laidMet_of_run' 8 (by kernel_rfl) (by kernel_rfl)
end Go.Proofs.YtdebpdjkkblcfaaGreatDoor
