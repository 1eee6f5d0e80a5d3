/- The tables of layer 11 and of layer 41: names of reasons, words of events; a world that holds them. -/
import Derived.Test.YtdebpdjkkblcfaaDoorStr
import Derived.Test.YtdebpdjkkblcfaaDoorStrTab
import Derived.Test.YtdebpdjkkblcfaaDoorInst
namespace Go.Ab
/-- The names of reasons. -/
def namesL : List (List UInt8) := [[], [115, 104, 111, 114, 116], [118, 101, 114, 115, 105, 111, 110], [104, 101, 97, 100, 101, 114], [116, 111, 116, 97, 108], [115, 117, 109], [114, 101, 115, 101, 114, 118, 101, 100], [111, 102, 102, 115, 101, 116], [102, 114, 97, 103, 109, 101, 110, 116], [111, 112, 116, 105, 111, 110, 115], [114, 111, 117, 116, 101], [116, 116, 108], [97, 100, 100, 114, 101, 115, 115], [112, 114, 111, 116, 111, 99, 111, 108], [108, 101, 110, 103, 116, 104], [102, 108, 97, 103, 115], [112, 111, 114, 116], [116, 121, 112, 101], [113, 117, 111, 116, 101], [110, 101, 115, 116, 101, 100], [102, 108, 111, 119], [114, 101, 108, 97, 116, 101, 100], [110, 101, 119], [114, 117, 108, 101], [110, 111, 114, 117, 108, 101], [110, 111, 116, 111, 112, 101, 110], [115, 116, 97, 116, 101], [115, 111, 117, 114, 99, 101], [114, 97, 116, 101], [102, 117, 108, 108], [110, 111, 110, 101]]
/-- The words of an event. -/
def wordsL : List (List UInt8) := [[105, 110], [111, 117, 116], [100, 114, 111, 112], [112, 97, 115, 115]]
end Go.Ab
namespace Go.Proofs.YtdebpdjkkblcfaaDoor
open Go.RowKit Go.Ab
structure GoodN (w : World) : Prop where
  good : Good w
  names : ∀ (i : Nat) s, namesL[i]? = some s → w.cell? ⟨1, i, none⟩ = some (.string ⟨s.toArray⟩)
structure GoodT (w : World) : Prop where
  goodN : GoodN w
  words : ∀ (i : Nat) s, wordsL[i]? = some s → w.cell? ⟨0, i, none⟩ = some (.string ⟨s.toArray⟩)
theorem GoodN.up {w W : World} (g : GoodN w) (h : Up w W) : GoodN W := ⟨g.good.up h, fun i s hs => h.cell_some' (g.names i s hs)⟩
theorem GoodT.up {w W : World} (g : GoodT w) (h : Up w W) : GoodT W := ⟨g.goodN.up h, fun i s hs => h.cell_some' (g.words i s hs)⟩
theorem GoodT.good {w : World} (g : GoodT w) : Good w := g.goodN.good
end Go.Proofs.YtdebpdjkkblcfaaDoor
