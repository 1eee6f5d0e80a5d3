/- Masks, prefixes, bounds: what the functions of package addr that take a prefix return. -/
import Derived.Test.YtgenojfbhpimgaaGreatDoorProg
import Derived.Test.YtgenojfbhpimgaaGreatDoorBase
import Derived.Test.YtgenojfbhpimgaaGreatDoorAddrPlain
namespace Go.Proofs.YtgenojfbhpimgaaGreatDoor
open Go.RowKit Go.Ab

end Go.Proofs.YtgenojfbhpimgaaGreatDoor
