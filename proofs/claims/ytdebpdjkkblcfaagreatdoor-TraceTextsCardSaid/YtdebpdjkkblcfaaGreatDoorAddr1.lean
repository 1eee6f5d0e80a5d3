/- Masks, prefixes, bounds: what the functions of package addr that take a prefix return. -/
import Derived.Test.YtdebpdjkkblcfaaGreatDoorProg
import Derived.Test.YtdebpdjkkblcfaaGreatDoorBase
import Derived.Test.YtdebpdjkkblcfaaGreatDoorAddrPlain
namespace Go.Proofs.YtdebpdjkkblcfaaGreatDoor
open Go.RowKit Go.Ab

end Go.Proofs.YtdebpdjkkblcfaaGreatDoor
