/- AddrCovers: the walk returns true. -/
import Derived.Test.YtbcdeeiddpcdeaaDoorCoversAll
namespace Go.Proofs.YtbcdeeiddpcdeaaDoor
open Go.RowKit Go.Ab
theorem lawCovers_any (a b c : Int) (w : World) (g : Good w) (a0 : 0 ≤ a) (_ : a < 4294967296) (_ : 0 ≤ b) (b1 : b < 4294967296) (c0 : 0 ≤ c) (c1 : c < 4294967296) : Gives Tryd.prog 3 #[.int .u32 a, .int .u32 b, .int .u32 c] w (.bool true) := by
  rcases Int.lt_or_le b a with h | h
  · exact covers_no a b c w g h
  · exact covers_yes a b c w g h a0 b1 c0 c1
end Go.Proofs.YtbcdeeiddpcdeaaDoor
