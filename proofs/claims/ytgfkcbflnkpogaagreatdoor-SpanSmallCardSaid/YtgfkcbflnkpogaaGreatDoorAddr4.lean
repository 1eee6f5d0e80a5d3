/- Numbers, addresses, prefixes, ranges and keys read: what the reading functions of package addr return. Ranges read: what ReadRange of package addr returns. Prefixes, ranges and keys read: what the reading functions of package addr return. Keys read: what ReadKey of package addr returns. -/
import Derived.Test.YtgfkcbflnkpogaaGreatDoorAddr2
namespace Go.Ab
def numV (b : Int) (l : List UInt8) : Int := atoiV l % b
def numOk (b : Int) (l : List UInt8) : Bool := atoiOk l && (dec (numV b l) == l)
theorem numV_bd (l : List UInt8) : 0 ≤ numV 256 l ∧ numV 256 l < 256 := by unfold numV; omega
def accL (f : Nat → List UInt8) : Nat → Int
  | 0 => 0
  | k + 1 => accL f k * 256 + numV 256 (f k)
theorem accL_bd (f : Nat → List UInt8) : ∀ k, 0 ≤ accL f k ∧ accL f k < 256 ^ k
  | 0 => by simp [accL]
  | k + 1 => by
    have ih := accL_bd f k
    have := numV_bd (f k)
    unfold accL
    rw [Int.pow_succ]; omega
def fourL (a b c d : List UInt8) : Nat → List UInt8 | 0 => a | 1 => b | 2 => c | _ => d
def readL (l : List UInt8) : Option Int :=
  match splitC 46 l with
  | [a, b, c, d] => if numOk 256 a && numOk 256 b && numOk 256 c && numOk 256 d then some (accL (fourL a b c d) 4) else none
  | _ => none
def readV (l : List UInt8) : Value := match readL l with | some a => .tuple #[.int .u32 a, .int .i64 0] | none => .tuple #[.int .u32 0, .int .i64 30]
theorem readL_not4 (l : List UInt8) (h : (splitC 46 l).length ≠ 4) : readL l = none := by
  unfold readL
  split
  · rename_i a b c d e; rw [e] at h; simp at h
  · rfl
theorem shl_or (a n : Int) (h0 : 0 ≤ a) (h1 : a < 16777216) (n0 : 0 ≤ n) (n1 : n < 256) : bits .or .u32 (a * 256) n = a * 256 + n := by
  obtain ⟨m, rfl⟩ := Int.eq_ofNat_of_zero_le h0
  obtain ⟨k, rfl⟩ := Int.eq_ofNat_of_zero_le n0
  rw [show ((m : Int) * 256) = ((m * 256 : Nat) : Int) by omega, u32_or_nat _ _ (by omega) (by omega), nat_join 8 (m * 256) k (by omega) (by omega)]
  omega
theorem list4 {α : Type} (l : List α) (h : l.length = 4) : ∃ a b c d, l = [a, b, c, d] := by
  match l, h with
  | [a, b, c, d], _ => exact ⟨a, b, c, d, rfl⟩
end Go.Ab
namespace Go.Proofs.YtgfkcbflnkpogaaGreatDoor
open Go.RowKit Go.Ab

end Go.Proofs.YtgfkcbflnkpogaaGreatDoor
namespace Go.Ab
theorem numV16_bd (l : List UInt8) : 0 ≤ numV 65536 l ∧ numV 65536 l < 65536 := by unfold numV; omega
/-- The two ports that ReadRange guesses. -/
def fromL (l : List UInt8) : Int := numV 65536 (cutC 45 l).1
def toL (l : List UInt8) : Int := numV 65536 (if (cutC 45 l).2.2 then (cutC 45 l).2.1 else (cutC 45 l).1)
def readRangeL (l : List UInt8) : Option (Int × Int) :=
  if l = [42] then some (0, 65535) else if fromL l ≤ toL l ∧ rangeTextL (fromL l) (toL l) = l then some (fromL l, toL l) else none
def readRangeV (l : List UInt8) : Value := match readRangeL l with | some (p, q) => .tuple #[.agg #[.int .u16 p, .int .u16 q], .int .i64 0] | none => .tuple #[.agg #[.int .u16 0, .int .u16 0], .int .i64 30]
end Go.Ab
namespace Go.Proofs.YtgfkcbflnkpogaaGreatDoor
open Go.RowKit Go.Ab

end Go.Proofs.YtgfkcbflnkpogaaGreatDoor
namespace Go.Ab
theorem readL_bd {l : List UInt8} {a : Int} (h : readL l = some a) : 0 ≤ a ∧ a < 4294967296 := by
  unfold readL at h
  split at h
  · split at h
    · rename_i p q r s _ _
      have := accL_bd (fourL p q r s) 4
      simp only [Int.reducePow] at this
      injection h with h
      rw [h] at this; exact this
    · cases h
  · cases h
/-- The prefix of a text. -/
def readPrefixL (l : List UInt8) : Option (Int × Int) :=
  match readL (cutC 47 l).1 with
  | some a => if numOk 256 (cutC 47 l).2.1 && rightB a (numV 256 (cutC 47 l).2.1) then some (a, numV 256 (cutC 47 l).2.1) else none
  | none => none
def readPrefixV (l : List UInt8) : Value := match readPrefixL l with | some (a, n) => .tuple #[.agg #[.int .u32 a, .int .u8 n], .int .i64 0] | none => .tuple #[.agg #[.int .u32 0, .int .u8 0], .int .i64 30]
end Go.Ab
namespace Go.Proofs.YtgfkcbflnkpogaaGreatDoor
open Go.RowKit Go.Ab

end Go.Proofs.YtgfkcbflnkpogaaGreatDoor
namespace Go.Ab
def readI (l : List UInt8) : Int := (readL l).getD 0
def readE (l : List UInt8) : Int := if (readL l).isSome then 0 else 30
theorem readV_eq (l : List UInt8) : readV l = .tuple #[.int .u32 (readI l), .int .i64 (readE l)] := by
  unfold readV readI readE
  rcases h : readL l with _ | a <;> simp
theorem readI_bd (l : List UInt8) : 0 ≤ readI l ∧ readI l < 4294967296 := by
  unfold readI
  rcases h : readL l with _ | a
  · simp
  · exact readL_bd h
/-- The parts of a key that ReadKey guesses. -/
def kRest (l : List UInt8) : List UInt8 := (cutC 32 l).2.1
def kSrc (l : List UInt8) : List UInt8 := (cutC 32 (kRest l)).1
def kDst (l : List UInt8) : List UInt8 := (cutC 32 (kRest l)).2.1
def kPr (l : List UInt8) : Int := numV 256 (cutC 32 l).1
def kS (l : List UInt8) : Int := readI (cutC 58 (kSrc l)).1
def kSp (l : List UInt8) : Int := numV 65536 (cutC 58 (kSrc l)).2.1
def kD (l : List UInt8) : Int := readI (cutC 58 (kDst l)).1
def kDp (l : List UInt8) : Int := numV 65536 (cutC 58 (kDst l)).2.1
def kText (l : List UInt8) : List UInt8 := keyTextL (kPr l) (kS l) (kD l) (kSp l) (kDp l)
def readKeyV (l : List UInt8) : Value :=
  if kText l = l then .tuple #[.agg #[.int .u8 (kPr l), .int .u32 (kS l), .int .u32 (kD l), .int .u16 (kSp l), .int .u16 (kDp l)], .int .i64 0]
  else .tuple #[.agg #[.int .u8 0, .int .u32 0, .int .u32 0, .int .u16 0, .int .u16 0], .int .i64 30]
theorem kRest_len (l : List UInt8) : (kRest l).length ≤ l.length := (cutC_len 32 l).2
theorem kSrc_len (l : List UInt8) : (kSrc l).length ≤ l.length := Nat.le_trans (cutC_len 32 (kRest l)).1 (kRest_len l)
theorem kDst_len (l : List UInt8) : (kDst l).length ≤ l.length := Nat.le_trans (cutC_len 32 (kRest l)).2 (kRest_len l)
end Go.Ab
namespace Go.Proofs.YtgfkcbflnkpogaaGreatDoor
open Go.RowKit Go.Ab

end Go.Proofs.YtgfkcbflnkpogaaGreatDoor
