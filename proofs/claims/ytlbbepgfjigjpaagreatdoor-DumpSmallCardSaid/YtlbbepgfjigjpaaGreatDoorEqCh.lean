/- Two lines of dumps compared by '==': one Bool; two changes likewise. Two changes of dumps compared by '==': one Bool. -/
import Derived.Test.YtlbbepgfjigjpaaGreatDoorDDump
namespace Go.Proofs.YtlbbepgfjigjpaaGreatDoor
open Go.RowKit Go.Ab
set_option maxHeartbeats 8000000 in
set_option maxRecDepth 100000 in
theorem eq_line (w : World) (pr1 pr2 s1 s2 d1 d2 sp1 sp2 dp1 dp2 sd1 sd2 cl1 cl2 dl1 dl2 sn1 sn2 : Int) (rp1 rp2 ss1 ss2 : Bool) :
    (Op.equalIn 10000 31 (.agg #[.int .u8 pr1, .int .u32 s1, .int .u32 d1, .int .u16 sp1, .int .u16 dp1, .int .u8 sd1, .int .u8 cl1, .bool rp1, .bool ss1, .int .i64 dl1, .int .i64 sn1]) (.agg #[.int .u8 pr2, .int .u32 s2, .int .u32 d2, .int .u16 sp2, .int .u16 dp2, .int .u8 sd2, .int .u8 cl2, .bool rp2, .bool ss2, .int .i64 dl2, .int .i64 sn2])).run Tryz.prog w = .ok (pr1 == pr2 && (s1 == s2 && (d1 == d2 && (sp1 == sp2 && (dp1 == dp2 && (sd1 == sd2 && (cl1 == cl2 && (rp1 == rp2 && (ss1 == ss2 && (dl1 == dl2 && (sn1 == sn2))))))))))) w := by
  cases h0 : (pr1 == pr2) with
  | false => simp [go_sem, h0]
  | true =>
    cases h1 : (s1 == s2) with
    | false => simp [go_sem, h0, h1]
    | true =>
      cases h2 : (d1 == d2) with
      | false => simp [go_sem, h0, h1, h2]
      | true =>
        cases h3 : (sp1 == sp2) with
        | false => simp [go_sem, h0, h1, h2, h3]
        | true =>
          cases h4 : (dp1 == dp2) with
          | false => simp [go_sem, h0, h1, h2, h3, h4]
          | true =>
            cases h5 : (sd1 == sd2) with
            | false => simp [go_sem, h0, h1, h2, h3, h4, h5]
            | true =>
              cases h6 : (cl1 == cl2) with
              | false => simp [go_sem, h0, h1, h2, h3, h4, h5, h6]
              | true =>
                cases h7 : (rp1 == rp2) with
                | false => simp [go_sem, h0, h1, h2, h3, h4, h5, h6, h7]
                | true =>
                  cases h8 : (ss1 == ss2) with
                  | false => simp [go_sem, h0, h1, h2, h3, h4, h5, h6, h7, h8]
                  | true =>
                    cases h9 : (dl1 == dl2) with
                    | false => simp [go_sem, h0, h1, h2, h3, h4, h5, h6, h7, h8, h9]
                    | true =>
                      cases h10 : (sn1 == sn2) <;> simp [go_sem, h0, h1, h2, h3, h4, h5, h6, h7, h8, h9, h10]
end Go.Proofs.YtlbbepgfjigjpaaGreatDoor
namespace Go.Ab
def lnB (a b : Ln) : Bool := a.pr == b.pr && (a.s == b.s && (a.d == b.d && (a.sp == b.sp && (a.dp == b.dp && (a.sd == b.sd && (a.cl == b.cl && (a.rp == b.rp && (a.ss == b.ss && (a.dl == b.dl && (a.sn == b.sn))))))))))
theorem lnB_eq (a b : Ln) : lnB a b = decide (a = b) := by
  obtain ⟨_, _, _, _, _, _, _, _, _, _, _⟩ := a
  obtain ⟨_, _, _, _, _, _, _, _, _, _, _⟩ := b
  simp only [lnB, Ln.mk.injEq, Bool.decide_and]
  rfl
end Go.Ab
namespace Go.Proofs.YtlbbepgfjigjpaaGreatDoor
open Go.RowKit Go.Ab
set_option maxHeartbeats 8000000 in
set_option maxRecDepth 100000 in
theorem eq_change (w : World) (k1 k2 opr1 opr2 os1 os2 od1 od2 osp1 osp2 odp1 odp2 osd1 osd2 ocl1 ocl2 odl1 odl2 osn1 osn2 npr1 npr2 ns1 ns2 nd1 nd2 nsp1 nsp2 ndp1 ndp2 nsd1 nsd2 ncl1 ncl2 ndl1 ndl2 nsn1 nsn2 : Int) (orp1 orp2 oss1 oss2 nrp1 nrp2 nss1 nss2 : Bool) :
    (Op.equalIn 10000 44 (.agg #[.int .u8 k1, .int .u8 opr1, .int .u32 os1, .int .u32 od1, .int .u16 osp1, .int .u16 odp1, .int .u8 osd1, .int .u8 ocl1, .bool orp1, .bool oss1, .int .i64 odl1, .int .i64 osn1, .int .u8 npr1, .int .u32 ns1, .int .u32 nd1, .int .u16 nsp1, .int .u16 ndp1, .int .u8 nsd1, .int .u8 ncl1, .bool nrp1, .bool nss1, .int .i64 ndl1, .int .i64 nsn1]) (.agg #[.int .u8 k2, .int .u8 opr2, .int .u32 os2, .int .u32 od2, .int .u16 osp2, .int .u16 odp2, .int .u8 osd2, .int .u8 ocl2, .bool orp2, .bool oss2, .int .i64 odl2, .int .i64 osn2, .int .u8 npr2, .int .u32 ns2, .int .u32 nd2, .int .u16 nsp2, .int .u16 ndp2, .int .u8 nsd2, .int .u8 ncl2, .bool nrp2, .bool nss2, .int .i64 ndl2, .int .i64 nsn2])).run Tryz.prog w = .ok (k1 == k2 && (opr1 == opr2 && (os1 == os2 && (od1 == od2 && (osp1 == osp2 && (odp1 == odp2 && (osd1 == osd2 && (ocl1 == ocl2 && (orp1 == orp2 && (oss1 == oss2 && (odl1 == odl2 && (osn1 == osn2 && (npr1 == npr2 && (ns1 == ns2 && (nd1 == nd2 && (nsp1 == nsp2 && (ndp1 == ndp2 && (nsd1 == nsd2 && (ncl1 == ncl2 && (nrp1 == nrp2 && (nss1 == nss2 && (ndl1 == ndl2 && (nsn1 == nsn2))))))))))))))))))))))) w := by
  cases h0 : (k1 == k2) with
  | false => simp [go_sem, h0]
  | true =>
    cases h1 : (opr1 == opr2) with
    | false => simp [go_sem, h0, h1]
    | true =>
      cases h2 : (os1 == os2) with
      | false => simp [go_sem, h0, h1, h2]
      | true =>
        cases h3 : (od1 == od2) with
        | false => simp [go_sem, h0, h1, h2, h3]
        | true =>
          cases h4 : (osp1 == osp2) with
          | false => simp [go_sem, h0, h1, h2, h3, h4]
          | true =>
            cases h5 : (odp1 == odp2) with
            | false => simp [go_sem, h0, h1, h2, h3, h4, h5]
            | true =>
              cases h6 : (osd1 == osd2) with
              | false => simp [go_sem, h0, h1, h2, h3, h4, h5, h6]
              | true =>
                cases h7 : (ocl1 == ocl2) with
                | false => simp [go_sem, h0, h1, h2, h3, h4, h5, h6, h7]
                | true =>
                  cases h8 : (orp1 == orp2) with
                  | false => simp [go_sem, h0, h1, h2, h3, h4, h5, h6, h7, h8]
                  | true =>
                    cases h9 : (oss1 == oss2) with
                    | false => simp [go_sem, h0, h1, h2, h3, h4, h5, h6, h7, h8, h9]
                    | true =>
                      cases h10 : (odl1 == odl2) with
                      | false => simp [go_sem, h0, h1, h2, h3, h4, h5, h6, h7, h8, h9, h10]
                      | true =>
                        cases h11 : (osn1 == osn2) with
                        | false => simp [go_sem, h0, h1, h2, h3, h4, h5, h6, h7, h8, h9, h10, h11]
                        | true =>
                          cases h12 : (npr1 == npr2) with
                          | false => simp [go_sem, h0, h1, h2, h3, h4, h5, h6, h7, h8, h9, h10, h11, h12]
                          | true =>
                            cases h13 : (ns1 == ns2) with
                            | false => simp [go_sem, h0, h1, h2, h3, h4, h5, h6, h7, h8, h9, h10, h11, h12, h13]
                            | true =>
                              cases h14 : (nd1 == nd2) with
                              | false => simp [go_sem, h0, h1, h2, h3, h4, h5, h6, h7, h8, h9, h10, h11, h12, h13, h14]
                              | true =>
                                cases h15 : (nsp1 == nsp2) with
                                | false => simp [go_sem, h0, h1, h2, h3, h4, h5, h6, h7, h8, h9, h10, h11, h12, h13, h14, h15]
                                | true =>
                                  cases h16 : (ndp1 == ndp2) with
                                  | false => simp [go_sem, h0, h1, h2, h3, h4, h5, h6, h7, h8, h9, h10, h11, h12, h13, h14, h15, h16]
                                  | true =>
                                    cases h17 : (nsd1 == nsd2) with
                                    | false => simp [go_sem, h0, h1, h2, h3, h4, h5, h6, h7, h8, h9, h10, h11, h12, h13, h14, h15, h16, h17]
                                    | true =>
                                      cases h18 : (ncl1 == ncl2) with
                                      | false => simp [go_sem, h0, h1, h2, h3, h4, h5, h6, h7, h8, h9, h10, h11, h12, h13, h14, h15, h16, h17, h18]
                                      | true =>
                                        cases h19 : (nrp1 == nrp2) with
                                        | false => simp [go_sem, h0, h1, h2, h3, h4, h5, h6, h7, h8, h9, h10, h11, h12, h13, h14, h15, h16, h17, h18, h19]
                                        | true =>
                                          cases h20 : (nss1 == nss2) with
                                          | false => simp [go_sem, h0, h1, h2, h3, h4, h5, h6, h7, h8, h9, h10, h11, h12, h13, h14, h15, h16, h17, h18, h19, h20]
                                          | true =>
                                            cases h21 : (ndl1 == ndl2) with
                                            | false => simp [go_sem, h0, h1, h2, h3, h4, h5, h6, h7, h8, h9, h10, h11, h12, h13, h14, h15, h16, h17, h18, h19, h20, h21]
                                            | true =>
                                              cases h22 : (nsn1 == nsn2) <;> simp [go_sem, h0, h1, h2, h3, h4, h5, h6, h7, h8, h9, h10, h11, h12, h13, h14, h15, h16, h17, h18, h19, h20, h21, h22]
end Go.Proofs.YtlbbepgfjigjpaaGreatDoor
