/- Masks, prefixes, bounds: what the functions of package addr that take a prefix return. -/
import Derived.Test.YtngmcljkmcdlmaaGreatDoorProg
import Derived.Test.YtngmcljkmcdlmaaGreatDoorBase
import Derived.Test.YtngmcljkmcdlmaaGreatDoorAddrPlain
namespace Go.Proofs.YtngmcljkmcdlmaaGreatDoor
open Go.RowKit Go.Ab

end Go.Proofs.YtngmcljkmcdlmaaGreatDoor
