/- Two structs of integers compared by '==': one Bool, nothing split. -/
import Derived.Test.YtdiiicnjbgimmaaGreatDoorBase
import Derived.Test.YtdiiicnjbgimmaaGreatDoorCover
namespace Go.Proofs.YtdiiicnjbgimmaaGreatDoor
open Go.RowKit Go.Ab
theorem eq_prefix (w : World) (p M q N : Int) : (Op.equalIn 10000 25 (.agg #[.int .u32 p, .int .u8 M]) (.agg #[.int .u32 q, .int .u8 N])).run Tryz.prog w = .ok (p == q && M == N) w := by
  cases h : (p == q) <;> cases h2 : (M == N) <;> simp_all [go_sem]
theorem eq_range (w : World) (p M q N : Int) : (Op.equalIn 10000 33 (.agg #[.int .u16 p, .int .u16 M]) (.agg #[.int .u16 q, .int .u16 N])).run Tryz.prog w = .ok (p == q && M == N) w := by
  cases h : (p == q) <;> cases h2 : (M == N) <;> simp_all [go_sem]
theorem eq_key (w : World) (e1 s1 d1 sp1 dp1 e2 s2 d2 sp2 dp2 : Int) : (Op.equalIn 10000 29 (.agg #[.int .u8 e1, .int .u32 s1, .int .u32 d1, .int .u16 sp1, .int .u16 dp1]) (.agg #[.int .u8 e2, .int .u32 s2, .int .u32 d2, .int .u16 sp2, .int .u16 dp2])).run Tryz.prog w =
    .ok (e1 == e2 && (s1 == s2 && (d1 == d2 && (sp1 == sp2 && dp1 == dp2)))) w := by
  cases h1 : (e1 == e2) <;> cases h2 : (s1 == s2) <;> cases h3 : (d1 == d2) <;> cases h4 : (sp1 == sp2) <;> cases h5 : (dp1 == dp2) <;> simp [go_sem, h1, h2, h3, h4, h5] <;> simp_all
end Go.Proofs.YtdiiicnjbgimmaaGreatDoor
