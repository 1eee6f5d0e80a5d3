/- Prefixes, ranges and keys read: what the reading functions of package addr return. -/
import Derived.Test.YtdebpdjkkblcfaaGreatDoorAddr4
import Derived.Test.YtdebpdjkkblcfaaGreatDoorAddr1
namespace Go.Ab
theorem readL_bd {l : List UInt8} {a : Int} (h : readL l = some a) : 0 ≤ a ∧ a < 4294967296 := by
  unfold readL at h
  split at h
  · split at h
    · rename_i p q r s _ _
      have := accL_bd (fourL p q r s) 4
      simp only [Int.reducePow] at this
      injection h with h
      rw [h] at this; exact this
    · cases h
  · cases h
/-- The prefix of a text. -/
def readPrefixL (l : List UInt8) : Option (Int × Int) :=
  match readL (cutC 47 l).1 with
  | some a => if numOk 256 (cutC 47 l).2.1 && rightB a (numV 256 (cutC 47 l).2.1) then some (a, numV 256 (cutC 47 l).2.1) else none
  | none => none
def readPrefixV (l : List UInt8) : Value := match readPrefixL l with | some (a, n) => .tuple #[.agg #[.int .u32 a, .int .u8 n], .int .i64 0] | none => .tuple #[.agg #[.int .u32 0, .int .u8 0], .int .i64 30]
end Go.Ab
namespace Go.Proofs.YtdebpdjkkblcfaaGreatDoor
open Go.RowKit Go.Ab

end Go.Proofs.YtdebpdjkkblcfaaGreatDoor
