/- Masks, prefixes, bounds: what the functions of package addr that take a prefix return. -/
import Derived.Test.YtdebpdjkkblcfaaDoorProg
import Derived.Test.YtdebpdjkkblcfaaDoorBase
import Derived.Test.YtdebpdjkkblcfaaDoorAddrPlain
namespace Go.Proofs.YtdebpdjkkblcfaaDoor
open Go.RowKit Go.Ab

end Go.Proofs.YtdebpdjkkblcfaaDoor
