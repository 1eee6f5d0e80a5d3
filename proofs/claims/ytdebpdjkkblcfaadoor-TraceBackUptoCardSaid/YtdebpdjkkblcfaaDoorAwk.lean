/- The package's own check of a few known answers. -/
import Derived.Test.YtdebpdjkkblcfaaDoorEqual
import Derived.Test.YtdebpdjkkblcfaaDoorTr3
namespace Go.Ab
def evA : Ev := ⟨12, 1, 22, 6, 167772161, 167772162, 1025, 80⟩
def evBb : Ev := ⟨13, 0, 3, 0, 0, 0, 0, 0⟩
end Go.Ab
namespace Go.Proofs.YtdebpdjkkblcfaaDoor
open Go.RowKit Go.Ab
set_option maxHeartbeats 4000000 in
set_option maxRecDepth 100000 in
theorem example_any (w : World) : Gives Tryd.prog 33 #[] w (.tuple #[.agg #[.int .i64 12, .int .u8 1, .int .u8 22, .int .u8 6, .int .u32 167772161, .int .u32 167772162, .int .u16 1025, .int .u16 80], .agg #[.int .i64 13, .int .u8 0, .int .u8 3, .int .u8 0, .int .u32 0, .int .u32 0, .int .u16 0, .int .u16 0]]) := by
  unfold Gives
  go_enter Tryd.func33, Tryd.ntmps33
  go_wp2_with fail
  refine bodyPost_ret (v := Value.tuple #[.agg #[.int .i64 12, .int .u8 1, .int .u8 22, .int .u8 6, .int .u32 167772161, .int .u32 167772162, .int .u16 1025, .int .u16 80], .agg #[.int .i64 13, .int .u8 0, .int .u8 3, .int .u8 0, .int .u32 0, .int .u32 0, .int .u16 0, .int .u16 0]]) (by simp [results, Tryd.results33, go_sem]) rfl ⟨rfl, mkI⟩
end Go.Proofs.YtdebpdjkkblcfaaDoor
