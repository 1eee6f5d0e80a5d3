/- The arithmetic of prefixes: no program in sight. -/
import Derived.Laws.BitsAllLaws
import Derived.IntWalk
namespace Go.Ab

/-- The number of addresses of a prefix. -/
def sz (n : Int) : Int := (2 : Int) ^ (32 - n).toNat
end Go.Ab
