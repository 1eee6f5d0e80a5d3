/- Masks, prefixes, bounds: what the functions of package addr that take a prefix return. -/
import Derived.Test.YtbojbnpafoaljaaDoorProg
import Derived.Test.YtbojbnpafoaljaaDoorBase
import Derived.Test.YtbojbnpafoaljaaDoorAddrPlain
namespace Go.Proofs.YtbojbnpafoaljaaDoor
open Go.RowKit Go.Ab

end Go.Proofs.YtbojbnpafoaljaaDoor
