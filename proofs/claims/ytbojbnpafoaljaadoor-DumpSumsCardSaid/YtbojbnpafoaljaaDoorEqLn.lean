/- Two lines of dumps compared by '==': one Bool; two changes likewise. -/
import Derived.Test.YtbojbnpafoaljaaDoorDDump
namespace Go.Proofs.YtbojbnpafoaljaaDoor
open Go.RowKit Go.Ab
set_option maxHeartbeats 8000000 in
set_option maxRecDepth 100000 in
theorem eq_line (w : World) (pr1 pr2 s1 s2 d1 d2 sp1 sp2 dp1 dp2 sd1 sd2 cl1 cl2 dl1 dl2 sn1 sn2 : Int) (rp1 rp2 ss1 ss2 : Bool) :
    (Op.equalIn 10000 44 (.agg #[.int .u8 pr1, .int .u32 s1, .int .u32 d1, .int .u16 sp1, .int .u16 dp1, .int .u8 sd1, .int .u8 cl1, .bool rp1, .bool ss1, .int .i64 dl1, .int .i64 sn1]) (.agg #[.int .u8 pr2, .int .u32 s2, .int .u32 d2, .int .u16 sp2, .int .u16 dp2, .int .u8 sd2, .int .u8 cl2, .bool rp2, .bool ss2, .int .i64 dl2, .int .i64 sn2])).run Tryd.prog w = .ok (pr1 == pr2 && (s1 == s2 && (d1 == d2 && (sp1 == sp2 && (dp1 == dp2 && (sd1 == sd2 && (cl1 == cl2 && (rp1 == rp2 && (ss1 == ss2 && (dl1 == dl2 && (sn1 == sn2))))))))))) w := by
  cases h0 : (pr1 == pr2) with
  | false => simp [go_sem, h0]
  | true =>
    cases h1 : (s1 == s2) with
    | false => simp [go_sem, h0, h1]
    | true =>
      cases h2 : (d1 == d2) with
      | false => simp [go_sem, h0, h1, h2]
      | true =>
        cases h3 : (sp1 == sp2) with
        | false => simp [go_sem, h0, h1, h2, h3]
        | true =>
          cases h4 : (dp1 == dp2) with
          | false => simp [go_sem, h0, h1, h2, h3, h4]
          | true =>
            cases h5 : (sd1 == sd2) with
            | false => simp [go_sem, h0, h1, h2, h3, h4, h5]
            | true =>
              cases h6 : (cl1 == cl2) with
              | false => simp [go_sem, h0, h1, h2, h3, h4, h5, h6]
              | true =>
                cases h7 : (rp1 == rp2) with
                | false => simp [go_sem, h0, h1, h2, h3, h4, h5, h6, h7]
                | true =>
                  cases h8 : (ss1 == ss2) with
                  | false => simp [go_sem, h0, h1, h2, h3, h4, h5, h6, h7, h8]
                  | true =>
                    cases h9 : (dl1 == dl2) with
                    | false => simp [go_sem, h0, h1, h2, h3, h4, h5, h6, h7, h8, h9]
                    | true =>
                      cases h10 : (sn1 == sn2) <;> simp [go_sem, h0, h1, h2, h3, h4, h5, h6, h7, h8, h9, h10]
end Go.Proofs.YtbojbnpafoaljaaDoor
namespace Go.Ab
def lnB (a b : Ln) : Bool := a.pr == b.pr && (a.s == b.s && (a.d == b.d && (a.sp == b.sp && (a.dp == b.dp && (a.sd == b.sd && (a.cl == b.cl && (a.rp == b.rp && (a.ss == b.ss && (a.dl == b.dl && (a.sn == b.sn))))))))))
theorem lnB_eq (a b : Ln) : lnB a b = decide (a = b) := by
  obtain ⟨_, _, _, _, _, _, _, _, _, _, _⟩ := a
  obtain ⟨_, _, _, _, _, _, _, _, _, _, _⟩ := b
  simp only [lnB, Ln.mk.injEq, Bool.decide_and]
  rfl
end Go.Ab
