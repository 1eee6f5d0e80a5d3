/- AddrTexts: the walk returns true. -/
import Derived.Test.YtbcdeeiddpcdeaaGreatDoorTexts
import Derived.Test.YtbcdeeiddpcdeaaGreatDoorAwake
namespace Go.Proofs.YtbcdeeiddpcdeaaGreatDoor
open Go.RowKit Go.Ab
set_option maxHeartbeats 4000000 in
set_option maxRecDepth 100000 in
theorem txt_any (l : List UInt8) (p q x e1 s1 d1 sp1 dp1 e2 s2 d2 sp2 dp2 : Int) (w : World) (g : Good w) (hl : l.length < 4294967281) (p0 : 0 ≤ p) (p1 : p < 65536) (q0 : 0 ≤ q) (q1 : q < 65536) (x0 : 0 ≤ x) (x1 : x < 65536) (k1 : KeyB e1 s1 d1 sp1 dp1) (k2 : KeyB e2 s2 d2 sp2 dp2) :
    Gives Tryz.prog 3 #[.string ⟨l.toArray⟩, .agg #[.int .u16 p, .int .u16 q], .int .u16 x, .agg #[.int .u8 e1, .int .u32 s1, .int .u32 d1, .int .u16 sp1, .int .u16 dp1], .agg #[.int .u8 e2, .int .u32 s2, .int .u32 d2, .int .u16 sp2, .int .u16 dp2]] w (.bool true) := by
  unfold Gives
  go_enter Tryz.func3, Tryz.ntmps3
  go_wp2_with (first
    | (go_at_call 5; refine (texts_any l p q x e1 s1 d1 sp1 dp1 e2 s2 d2 sp2 dp2 _ (g.up upI) hl p0 p1 q0 q1 x0 x1 k1 k2).mono ?_; rintro e w' ⟨rfl, x, rfl⟩)
    | (go_at_call 6; refine (awake_any _ (g.up upI)).mono ?_; rintro e w' ⟨rfl, x, rfl⟩))
  go_ret
  exact ⟨rfl, mkI⟩
end Go.Proofs.YtbcdeeiddpcdeaaGreatDoor
