/- Two events compared by '==': one Bool. -/
import Derived.Test.YtdebpdjkkblcfaaDoorRing1
namespace Go.Ab
/-- Are two events the same? -/
def evB (n1 sd1 r1 p1 s1 d1 sp1 dp1 n2 sd2 r2 p2 s2 d2 sp2 dp2 : Int) : Bool := n1 == n2 && (sd1 == sd2 && (r1 == r2 && (p1 == p2 && (s1 == s2 && (d1 == d2 && (sp1 == sp2 && dp1 == dp2))))))
theorem evB_eq (a b : Ev) : evB a.n a.sd a.r a.pr a.s a.d a.sp a.dp b.n b.sd b.r b.pr b.s b.d b.sp b.dp = decide (a = b) := by
  obtain ⟨_, _, _, _, _, _, _, _⟩ := a
  obtain ⟨_, _, _, _, _, _, _, _⟩ := b
  simp only [evB, Ev.mk.injEq, Bool.decide_and]
  rfl
end Go.Ab
namespace Go.Proofs.YtdebpdjkkblcfaaDoor
open Go.RowKit Go.Ab
set_option maxHeartbeats 4000000 in
theorem eq_event (w : World) (n1 sd1 r1 p1 s1 d1 sp1 dp1 n2 sd2 r2 p2 s2 d2 sp2 dp2 : Int) :
    (Op.equalIn 10000 31 (.agg #[.int .i64 n1, .int .u8 sd1, .int .u8 r1, .int .u8 p1, .int .u32 s1, .int .u32 d1, .int .u16 sp1, .int .u16 dp1]) (.agg #[.int .i64 n2, .int .u8 sd2, .int .u8 r2, .int .u8 p2, .int .u32 s2, .int .u32 d2, .int .u16 sp2, .int .u16 dp2])).run Tryd.prog w = .ok (evB n1 sd1 r1 p1 s1 d1 sp1 dp1 n2 sd2 r2 p2 s2 d2 sp2 dp2) w := by
  unfold evB
  cases h1 : (n1 == n2) with
  | false => simp [go_sem, h1]
  | true =>
    cases h2 : (sd1 == sd2) with
    | false => simp [go_sem, h1, h2]
    | true =>
      cases h3 : (r1 == r2) with
      | false => simp [go_sem, h1, h2, h3]
      | true =>
        cases h4 : (p1 == p2) with
        | false => simp [go_sem, h1, h2, h3, h4]
        | true =>
          cases h5 : (s1 == s2) with
          | false => simp [go_sem, h1, h2, h3, h4, h5]
          | true =>
            cases h6 : (d1 == d2) with
            | false => simp [go_sem, h1, h2, h3, h4, h5, h6]
            | true =>
              cases h7 : (sp1 == sp2) with
              | false => simp [go_sem, h1, h2, h3, h4, h5, h6, h7]
              | true => cases h8 : (dp1 == dp2) <;> simp [go_sem, h1, h2, h3, h4, h5, h6, h7, h8]
end Go.Proofs.YtdebpdjkkblcfaaDoor
