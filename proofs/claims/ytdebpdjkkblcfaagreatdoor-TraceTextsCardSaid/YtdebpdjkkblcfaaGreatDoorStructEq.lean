/- Two structs of integers compared by '==': one Bool, nothing split. -/
import Derived.Test.YtdebpdjkkblcfaaGreatDoorBase
import Derived.Test.YtdebpdjkkblcfaaGreatDoorCover
namespace Go.Proofs.YtdebpdjkkblcfaaGreatDoor
open Go.RowKit Go.Ab
theorem eq_key (w : World) (e1 s1 d1 sp1 dp1 e2 s2 d2 sp2 dp2 : Int) : (Op.equalIn 10000 25 (.agg #[.int .u8 e1, .int .u32 s1, .int .u32 d1, .int .u16 sp1, .int .u16 dp1]) (.agg #[.int .u8 e2, .int .u32 s2, .int .u32 d2, .int .u16 sp2, .int .u16 dp2])).run Tryz.prog w =
    .ok (e1 == e2 && (s1 == s2 && (d1 == d2 && (sp1 == sp2 && dp1 == dp2)))) w := by
  cases h1 : (e1 == e2) <;> cases h2 : (s1 == s2) <;> cases h3 : (d1 == d2) <;> cases h4 : (sp1 == sp2) <;> cases h5 : (dp1 == dp2) <;> simp [go_sem, h1, h2, h3, h4, h5] <;> simp_all
end Go.Proofs.YtdebpdjkkblcfaaGreatDoor
