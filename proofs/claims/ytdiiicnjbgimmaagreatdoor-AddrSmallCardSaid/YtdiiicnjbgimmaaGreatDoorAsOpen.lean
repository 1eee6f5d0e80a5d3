/- What the card of a law without arguments wants. -/
import Derived.Test.YtdiiicnjbgimmaaGreatDoorLaidWorld
import Derived.Test.YtdiiicnjbgimmaaGreatDoorWrap
import Derived.ChangeMaps5
namespace Go.Proofs.YtdiiicnjbgimmaaGreatDoor
open Go.ChangeShapes Go.WideShapes Go.ChangeAt Go.RowKit Go.Ab
theorem laidOut : laidOutB Tryz.prog = true := by kernel_rfl
end Go.Proofs.YtdiiicnjbgimmaaGreatDoor
