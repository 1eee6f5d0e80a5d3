/- Ranges read: what ReadRange of package addr returns. -/
import Derived.Test.YtdebpdjkkblcfaaGreatDoorAddr4
namespace Go.Ab
theorem numV16_bd (l : List UInt8) : 0 ≤ numV 65536 l ∧ numV 65536 l < 65536 := by unfold numV; omega
/-- The two ports that ReadRange guesses. -/
def fromL (l : List UInt8) : Int := numV 65536 (cutC 45 l).1
def toL (l : List UInt8) : Int := numV 65536 (if (cutC 45 l).2.2 then (cutC 45 l).2.1 else (cutC 45 l).1)
def readRangeL (l : List UInt8) : Option (Int × Int) :=
  if l = [42] then some (0, 65535) else if fromL l ≤ toL l ∧ rangeTextL (fromL l) (toL l) = l then some (fromL l, toL l) else none
def readRangeV (l : List UInt8) : Value := match readRangeL l with | some (p, q) => .tuple #[.agg #[.int .u16 p, .int .u16 q], .int .i64 0] | none => .tuple #[.agg #[.int .u16 0, .int .u16 0], .int .i64 30]
end Go.Ab
namespace Go.Proofs.YtdebpdjkkblcfaaGreatDoor
open Go.RowKit Go.Ab

end Go.Proofs.YtdebpdjkkblcfaaGreatDoor
