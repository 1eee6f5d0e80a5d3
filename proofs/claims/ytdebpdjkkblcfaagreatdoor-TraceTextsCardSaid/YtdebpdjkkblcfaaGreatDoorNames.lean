/- An array of strings that a row lists: its cells. -/
import Derived.Test.YtdebpdjkkblcfaaGreatDoorBase
import Derived.Lib.LaidTab
import Derived.Stop.LaidErr
import Derived.Test.YtdebpdjkkblcfaaGreatDoorStr
import Derived.Test.YtdebpdjkkblcfaaGreatDoorInst
namespace Go.Ab
open Go.RowKit
def strData {H : Type} (l : List (List UInt8)) : DataW H := .agg (l.map fun s => .lit (.string s))
theorem cells_of_strs {H : Type} {enc : TypeId × Value → H} {P : Program} {w : World} {base : Nat} {sp : Nat → Bool} {held : Bool} {fuel : Nat} {t e : TypeId} {n : Nat} {cs : List Value} {l : List (List UInt8)} {p : List MemPlace}
    (ht : P.underlying t = some (.array n e)) (he : P.underlying e = some .string) (hce : P.cellsOf e = 1) (hct : P.cellsOf t = n)
    (h : DataW.trod enc P w base sp held fuel t cs = some (strData l, p)) : cs = l.map fun s => Value.string ⟨s.toArray⟩ := by
  cases fuel with
  | zero => simp [DataW.trod] at h
  | succ fuel =>
    simp only [DataW.trod, ht, hce, hct, Nat.mul_one] at h
    split at h
    · obtain ⟨xs, hm, hx⟩ := Option.map_eq_some_iff.1 h
      have hxs : xs.map (·.1) = l.map fun s => (DataW.lit (.string s) : DataW H) := by
        have := congrArg Prod.fst hx
        simpa [strData] using this
      have hxl : xs.length = n := by simpa using Lib.mapM_length hm
      have hzl : l.length = n := by
        have := congrArg List.length hxs
        simp at this
        omega
      apply List.ext_getElem?
      intro i
      by_cases hi : i < n
      · obtain ⟨b, hb, hf⟩ := Lib.mapM_at hm i i (by simp [hi])
        obtain ⟨s, hc, hd, _⟩ := DataW.trod_string he hf
        have h1 : cs[i]? = some (.string s) := by
          have := congrArg (·[0]?) hc
          simpa [List.getElem?_take, List.getElem?_drop] using this
        have h2 : (xs.map (·.1))[i]? = some (DataW.lit (.string s.data.toList) : DataW H) := by simp [hb, hd]
        rw [hxs] at h2
        simp only [List.getElem?_map, Option.map_eq_some_iff, DataW.lit.injEq, Lit.string.injEq] at h2
        obtain ⟨z', hz', e⟩ := h2
        simp [h1, hz', e]
      · rw [List.getElem?_eq_none (by omega), List.getElem?_eq_none (by simp; omega)]
    · cases h
def StrsAre (P : Program) (w : World) (name : String) (l : List (List UInt8)) : Prop := w.var? P name = some (l.map fun s => Value.string ⟨s.toArray⟩).toArray
theorem strs_of_head {P : Program} {W : World} {name : String} {l : List (List UInt8)} {rest : List (String × DataW Unit)} {g : Nat} {t e : TypeId} {n : Nat}
    (hg : P.globalNamed name = some g) (hty : (P.globals[g]?).map (·.type) = some t) (ht : P.underlying t = some (.array n e)) (he : P.underlying e = some .string) (hce : P.cellsOf e = 1) (hct : P.cellsOf t = n)
    (h : laidMet P ((name, strData l) :: rest) W) : StrsAre P W name l := by
  obtain ⟨ps, ⟨g', t', cs, fuel, p, q, hg', ht', hvar, hd, _, _⟩, _⟩ := h
  obtain rfl := Option.some.inj (hg.symm.trans hg')
  obtain rfl := Option.some.inj (hty.symm.trans ht')
  unfold StrsAre
  rw [hvar, ← cells_of_strs ht he hce hct hd]
theorem StrsAre.cell {P : Program} {W : World} {name : String} {l : List (List UInt8)} {g : Nat} (h : StrsAre P W name l) (hg : P.globalNamed name = some g) (i : Nat) (s : List UInt8) (hi : l[i]? = some s) :
    W.cell? ⟨g, i, none⟩ = some (.string ⟨s.toArray⟩) := by
  have := World.var?_cell hg h i
  simpa [hi] using this
end Go.Ab
namespace Go.Ab
/-- The names of reasons. -/
def namesL : List (List UInt8) := [[], [115, 104, 111, 114, 116], [118, 101, 114, 115, 105, 111, 110], [104, 101, 97, 100, 101, 114], [116, 111, 116, 97, 108], [115, 117, 109], [114, 101, 115, 101, 114, 118, 101, 100], [111, 102, 102, 115, 101, 116], [102, 114, 97, 103, 109, 101, 110, 116], [111, 112, 116, 105, 111, 110, 115], [114, 111, 117, 116, 101], [116, 116, 108], [97, 100, 100, 114, 101, 115, 115], [112, 114, 111, 116, 111, 99, 111, 108], [108, 101, 110, 103, 116, 104], [102, 108, 97, 103, 115], [112, 111, 114, 116], [116, 121, 112, 101], [113, 117, 111, 116, 101], [110, 101, 115, 116, 101, 100], [102, 108, 111, 119], [114, 101, 108, 97, 116, 101, 100], [110, 101, 119], [114, 117, 108, 101], [110, 111, 114, 117, 108, 101], [110, 111, 116, 111, 112, 101, 110], [115, 116, 97, 116, 101], [115, 111, 117, 114, 99, 101], [114, 97, 116, 101], [102, 117, 108, 108], [110, 111, 110, 101]]
/-- The words of an event. -/
def wordsL : List (List UInt8) := [[105, 110], [111, 117, 116], [100, 114, 111, 112], [112, 97, 115, 115]]
end Go.Ab
namespace Go.Proofs.YtdebpdjkkblcfaaGreatDoor
open Go.RowKit Go.Ab
structure GoodN (w : World) : Prop where
  good : Good w
  names : ∀ (i : Nat) s, namesL[i]? = some s → w.cell? ⟨1, i, none⟩ = some (.string ⟨s.toArray⟩)
structure GoodT (w : World) : Prop where
  goodN : GoodN w
  words : ∀ (i : Nat) s, wordsL[i]? = some s → w.cell? ⟨0, i, none⟩ = some (.string ⟨s.toArray⟩)
theorem GoodN.up {w W : World} (g : GoodN w) (h : Up w W) : GoodN W := ⟨g.good.up h, fun i s hs => h.cell_some' (g.names i s hs)⟩
theorem GoodT.up {w W : World} (g : GoodT w) (h : Up w W) : GoodT W := ⟨g.goodN.up h, fun i s hs => h.cell_some' (g.words i s hs)⟩
theorem GoodT.good {w : World} (g : GoodT w) : Good w := g.goodN.good
end Go.Proofs.YtdebpdjkkblcfaaGreatDoor
