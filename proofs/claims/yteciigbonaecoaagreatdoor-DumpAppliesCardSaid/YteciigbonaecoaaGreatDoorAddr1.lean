/- Masks, prefixes, bounds: what the functions of package addr that take a prefix return. -/
import Derived.Test.YteciigbonaecoaaGreatDoorProg
import Derived.Test.YteciigbonaecoaaGreatDoorBase
import Derived.Test.YteciigbonaecoaaGreatDoorAddrPlain
namespace Go.Proofs.YteciigbonaecoaaGreatDoor
open Go.RowKit Go.Ab

end Go.Proofs.YteciigbonaecoaaGreatDoor
