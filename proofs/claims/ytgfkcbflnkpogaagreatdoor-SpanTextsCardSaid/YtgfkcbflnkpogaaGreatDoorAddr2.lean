/- Texts of prefixes, ranges and keys; keys turned and compared: what the functions of package addr return. -/
import Derived.Test.YtgfkcbflnkpogaaGreatDoorText
import Derived.Test.YtgfkcbflnkpogaaGreatDoorAddr1
namespace Go.Ab
def prefixTextL (a n : Int) : List UInt8 := textL a ++ [47] ++ dec n
def rangeTextL (p q : Int) : List UInt8 := if p = 0 ∧ q = 65535 then [42] else if p = q then dec p else dec p ++ [45] ++ dec q
def keyTextL (pr s d sp dp : Int) : List UInt8 := dec pr ++ [32] ++ textL s ++ [58] ++ dec sp ++ [32] ++ textL d ++ [58] ++ dec dp
end Go.Ab
namespace Go.Proofs.YtgfkcbflnkpogaaGreatDoor
open Go.RowKit Go.Ab

theorem rangeTextL_two (p q : Int) (h1 : ¬ (p = 0 ∧ q = 65535)) (h2 : p ≠ q) : rangeTextL p q = dec p ++ [45] ++ dec q := by unfold rangeTextL; rw [if_neg h1, if_neg h2]
theorem rangeTextL_one (p : Int) (h1 : ¬ (p = 0 ∧ p = 65535)) : rangeTextL p p = dec p := by unfold rangeTextL; rw [if_neg h1, if_pos rfl]
end Go.Proofs.YtgfkcbflnkpogaaGreatDoor
