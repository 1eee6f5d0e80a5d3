/- AddrNumbers: the walk returns true. -/
import Derived.Test.YtbcdeeiddpcdeaaDoorNumbers
import Derived.Test.YtbcdeeiddpcdeaaDoorAwake
namespace Go.Proofs.YtbcdeeiddpcdeaaDoor
open Go.RowKit Go.Ab
set_option maxHeartbeats 4000000 in
set_option maxRecDepth 100000 in
theorem num_any (a b p pn q qn n : Int) (w : World) (g : Good w) (a0 : 0 ≤ a) (a1 : a < 4294967296) (b0 : 0 ≤ b) (b1 : b < 4294967296) (p0 : 0 ≤ p) (p1 : p < 4294967296) (pn0 : 0 ≤ pn) (pn1 : pn < 256) (q0 : 0 ≤ q) (q1 : q < 4294967296) (qn0 : 0 ≤ qn) (qn1 : qn < 256) (n0 : 0 ≤ n) (n1 : n < 256) :
    Gives Tryd.prog 4 #[.int .u32 a, .int .u32 b, .agg #[.int .u32 p, .int .u8 pn], .agg #[.int .u32 q, .int .u8 qn], .int .u8 n] w (.bool true) := by
  unfold Gives
  go_enter Tryd.func4, Tryd.ntmps4
  go_wp2_with (first
    | (go_at_call 17; refine (numbers_any a b p pn q qn n _ (g.up upI) a0 a1 b0 b1 p0 p1 pn0 pn1 q0 q1 qn0 qn1 n0 n1).mono ?_; rintro e w' ⟨rfl, x, rfl⟩)
    | (go_at_call 10; refine (awake_any _ (g.up upI)).mono ?_; rintro e w' ⟨rfl, x, rfl⟩))
  go_ret
  exact ⟨rfl, mkI⟩
end Go.Proofs.YtbcdeeiddpcdeaaDoor
