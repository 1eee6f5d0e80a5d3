/- The bounds of a key's parts. -/
import Derived.Test.YtdebpdjkkblcfaaGreatDoorBase
namespace Go.Ab
/-- The bounds of a key's parts. -/
structure KeyB (pr s d sp dp : Int) : Prop where
  r0 : 0 ≤ pr
  r1 : pr < 256
  s0 : 0 ≤ s
  s1 : s < 4294967296
  d0 : 0 ≤ d
  d1 : d < 4294967296
  sp0 : 0 ≤ sp
  sp1 : sp < 65536
  dp0 : 0 ≤ dp
  dp1 : dp < 65536
end Go.Ab
