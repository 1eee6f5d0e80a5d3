/- Two structs of integers compared by '==': one Bool, nothing split. -/
import Derived.Test.YtgfkcbflnkpogaaGreatDoorBase
import Derived.Test.YtgfkcbflnkpogaaGreatDoorCover
namespace Go.Proofs.YtgfkcbflnkpogaaGreatDoor
open Go.RowKit Go.Ab
theorem eq_prefix (w : World) (p M q N : Int) : (Op.equalIn 10000 62 (.agg #[.int .u32 p, .int .u8 M]) (.agg #[.int .u32 q, .int .u8 N])).run Tryz.prog w = .ok (p == q && M == N) w := by
  cases h : (p == q) <;> cases h2 : (M == N) <;> simp_all [go_sem]
end Go.Proofs.YtgfkcbflnkpogaaGreatDoor
