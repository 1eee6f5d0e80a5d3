/- Texts of numbers and addresses: what decimal and Text of package addr return. -/
import Derived.Test.YtgfkcbflnkpogaaGreatDoorStr
import Derived.Test.YtgfkcbflnkpogaaGreatDoorAddrPlain
import Derived.Lib.ItoaLen
namespace Go.Ab
/-- The decimal digits of a number. -/
def dec (n : Int) : List UInt8 := Lib.itoa n
def octS (a s : Int) : Int := a / 2 ^ s.toNat % 256
def oct (a : Int) (k : Nat) : Int := octS a (24 - 8 * (k : Int))
/-- The text of an address. -/
def textL (a : Int) : List UInt8 := Lib.join [dec (oct a 0), dec (oct a 1), dec (oct a 2), dec (oct a 3)] [46]
def octs (a : Int) (k : Nat) : List Value := (List.range k).map fun j => Value.string ⟨(dec (oct a j)).toArray⟩
theorem octs_succ (a : Int) (k : Nat) : octs a (k + 1) = octs a k ++ [.string ⟨(dec (oct a k)).toArray⟩] := by simp [octs, List.range_succ]
theorem octS_bd (a s : Int) : 0 ≤ octS a s ∧ octS a s < 256 := by unfold octS; omega
theorem oct_bd (a : Int) (k : Nat) : 0 ≤ oct a k ∧ oct a k < 256 := octS_bd _ _
theorem str_app (x y : List UInt8) : (ByteArray.mk x.toArray ++ ByteArray.mk y.toArray) = ByteArray.mk (x ++ y).toArray := ByteArray.mk_append_mk x y
theorem dec_length (n : Int) (h0 : -9223372036854775808 ≤ n) (h1 : n ≤ 9223372036854775807) : (dec n).length ≤ 21 := Lib.itoa_length_le n h0 h1
theorem textL_length (a : Int) : (textL a).length ≤ 87 := by
  have e : ∀ j, (dec (oct a j)).length ≤ 21 := fun j => dec_length _ (by have := oct_bd a j; omega) (by have := oct_bd a j; omega)
  have e0 := e 0; have e1 := e 1; have e2 := e 2; have e3 := e 3
  unfold textL
  simp [Lib.join, List.intercalate]; omega
end Go.Ab
namespace Go.Proofs.YtgfkcbflnkpogaaGreatDoor
open Go.RowKit Go.Ab

theorem infoStr : (Tryz.prog.info? 9).map (fun i => (i.zero, i.size, i.bytes)) = some (some (.string ⟨#[]⟩), 1, 16) := by kernel_rfl

end Go.Proofs.YtgfkcbflnkpogaaGreatDoor
